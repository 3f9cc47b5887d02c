/-
 LIFT, part 15: roots written, grown, moved. No condition.
-/
import Derived.Test.YtobhmajhachnaaaGreatDoorLiftB
import Derived.Tactics
namespace Go.Lift
open Go.RowKit
def LiveR(ρ:Nat→Option Nat)(w:World)(γ:Labels)(φ:Nat→Nat)(s:St)(w':World)(γ':Labels)(φ':Nat→Nat)(s':St):Prop:=
 ∀(k k':Nat) (R:Root),ρ k=some k'→s k=some R→φ' k'=φ k∧∃R',s' k'=some R'∧R'.e=R.e∧(R'.g=true→R.g=true)∧(γ (φ k)=.r k []→γ' (φ k)=.r k' [])∧
  ∀(j:Nat) (x:D),R.cells[j]? =some (AV.tr x)→(∃x',R'.cells[j]? =some (AV.tr x'))∧
   ∀(cur cur':Array Value) (T:TypeId) (f:Nat × Nat) (T':TypeId) (f':Nat × Nat),w.heap[φ k]? =some (Obj.cells cur T f)→w'.heap[φ k]? =some (Obj.cells cur' T' f')→cur'[j]? =cur[j]?
section
variable {w w' : World} {γ γ' : Labels} {φ φ' : Nat → Nat} {s s' : St} {ρ : Nat → Option Nat}
mutual
theorem Rel.monoR(hK:Kst γ w γ' w')(hL:LiveR ρ w γ φ s w' γ' φ' s'):∀(av:AV) (v:Value),Rel w γ φ s av v→Rel w' γ' φ' s' (Lift.rn ρ av) v
 | .any,_,_=>by simp only[Lift.rn,Rel]
 | .und,_,h=>by simpa only[Lift.rn,Rel]using h
 | .nil,_,h=>by simpa only[Lift.rn,Rel]using h
 | .d x,v,h=>by
  simp only[Lift.rn,Rel]at h ⊢;exact Rd.mono (fun b hb=>hK.im hb) x v h
 | .own k off n,v,h=>by
  simp only[Lift.rn];split
  ·rename_i k' hk
   simp only[Rel]at h ⊢;obtain⟨R,hR,h⟩:=h;obtain⟨hφ,R',hR',he,hg,hlab,_⟩:=hL k k' R hk hR;refine⟨R',hR', ?_⟩;rcases h with h|⟨c,cur,T,hv,hn,hl,hh,hc⟩
   ·exact .inl h
   ·obtain⟨cur',hh',hs'⟩:=hK.shape _ _ _ _ hh
    exact .inr ⟨c,cur',T,by rw[hφ];exact hv,hn,by rw[hφ];exact hlab hl,by rw[hφ];exact hh',fun h0=>by rw[he,hs'];exact hc (hg h0)⟩
  ·simp only[Rel]
 | .sub k j,v,h=>by
  simp only[Lift.rn];split
  ·rename_i k' hk
   simp only[Rel]at h ⊢;obtain⟨R,x,cur,T,f,hR,hx,hh,hv⟩:=h;obtain⟨hφ,R',hR',he,hg,hlab,hj⟩:=hL k k' R hk hR;obtain⟨⟨x',hx'⟩,hcur⟩:=hj j x hx;obtain⟨cur',hh',hs'⟩:=hK.shape _ _ _ _ hh;exact⟨R',x',cur',T,f,hR',hx',by rw[hφ];exact hh',by rw[hcur _ _ _ _ _ _ hh hh'];exact hv⟩
  ·simp only[Rel]
 | .ptr k off,v,h=>by
  simp only[Lift.rn];split
  ·rename_i k' hk
   simp only[Rel]at h ⊢;obtain⟨R,hR,hv⟩:=h;obtain⟨hφ,R',hR',he,hg,hlab,_⟩:=hL k k' R hk hR;exact⟨R',hR',by rw[hφ];exact hv⟩
  ·simp only[Rel]
 | .sptr k j off,v,h=>by
  simp only[Lift.rn];split
  ·rename_i k' hk
   simp only[Rel]at h ⊢;obtain⟨R,x,cur,T,f,b,n,c,hR,hx,hh,hv,e⟩:=h;obtain⟨hφ,R',hR',he,hg,hlab,hj⟩:=hL k k' R hk hR;obtain⟨⟨x',hx'⟩,hcur⟩:=hj j x hx;obtain⟨cur',hh',hs'⟩:=hK.shape _ _ _ _ hh;exact⟨R',x',cur',T,f,b,n,c,hR',hx',by rw[hφ];exact hh',by rw[hcur _ _ _ _ _ _ hh hh'];exact hv,e⟩
  ·simp only[Rel]
 | .rptr l off,v,h=>by
  simp only[Lift.rn,Rel]at h ⊢;obtain⟨b,o,e,hb,hl⟩:=h;exact⟨b,o,e,(hK.im hb).1,RdL.mono (fun b hb=>hK.im hb) l b o hb hl⟩
 | .tr x,_,h=>by simp only[Rel]at h
 | .lv n,v,h=>by simpa only[Lift.rn,Rel]using h
 | .agg l,v,h=>by
  simp only[Lift.rn,Rel]at h ⊢;obtain⟨vs,e,hl⟩:=h;exact⟨vs,e,RelL.monoR hK hL l _ hl⟩
 | .tup l,v,h=>by
  simp only[Lift.rn,Rel]at h ⊢;obtain⟨vs,e,hl⟩:=h;exact⟨vs,e,RelL.monoR hK hL l _ hl⟩
 | .clo f l,v,h=>by
  simp only[Lift.rn,Rel]at h ⊢;obtain⟨vs,e,hl⟩:=h;exact⟨vs,e,RelL.monoR hK hL l _ hl⟩
theorem RelL.monoR(hK:Kst γ w γ' w')(hL:LiveR ρ w γ φ s w' γ' φ' s'):∀(l:List AV) (vs:List Value),RelL w γ φ s l vs→RelL w' γ' φ' s' (rnL ρ l) vs
 | [],_,h=>by simpa only[rnL,RelL]using h
 |x :: l,vs,h=>by
  simp only[rnL,RelL]at h ⊢;obtain⟨v,vs',e,hx,hl⟩:=h;exact⟨v,vs',e,Rel.monoR hK hL x v hx,RelL.monoR hK hL l vs' hl⟩
end
theorem CRel.monoR(hK:Kst γ w γ' w')(hL:LiveR ρ w γ φ s w' γ' φ' s'){k j:Nat}(hT:∀b q,q≠[]→γ b=.r k q→γ' b=.r k q∧w'.heap[b]? =w.heap[b]?)
  {av:AV} {v:Value} (h:CRel w γ φ s k j av v):CRel w' γ' φ' s' k j (Lift.rn ρ av) v:=by
 cases av with
 |tr x=>
  simp only[CRel,Lift.rn]at h ⊢;exact Tree.mono (by simp) hT x v h
 |own i o n=>
  have:=Rel.monoR hK hL _ _ (show Rel w γ φ s _ v from h);simp only[Lift.rn]at this ⊢;split<;>simp_all [CRel]
 |sub i o=>
  have:=Rel.monoR hK hL _ _ (show Rel w γ φ s _ v from h);simp only[Lift.rn]at this ⊢;split<;>simp_all [CRel]
 |ptr i o=>
  have:=Rel.monoR hK hL _ _ (show Rel w γ φ s _ v from h);simp only[Lift.rn]at this ⊢;split<;>simp_all [CRel]
 |sptr i o n=>
  have:=Rel.monoR hK hL _ _ (show Rel w γ φ s _ v from h);simp only[Lift.rn]at this ⊢;split<;>simp_all [CRel]
 |_=>
  have:=Rel.monoR hK hL _ _ (show Rel w γ φ s _ v from h);simp only[Lift.rn]at this ⊢;exact this
end
theorem n7{k i i':Nat}(h:fg k i=some i'):i'=i∧i≠k:=by
 unfold fg at h;split at h
 ·cases h
 ·rename_i hne
  exact⟨by simpa using h.symm,hne⟩
section
variable {γ : Labels} {φ : Nat → Nat} {s : St} {w : World}
def fgS(k:Nat)(s:St):St:=fun i=>(s i).map fun R=>{ R with cells:=rnL (fg k) R.cells }
theorem ug(k:Nat):LiveR (fg k) w γ φ s w γ φ (fgS k s):=by
 intro i i' R hi hR;obtain⟨rfl,_⟩:=n7 hi;refine⟨rfl,{ R with cells:=rnL (fg k) R.cells },by simp [fgS,hR],rfl,id,id,fun j x hx=>⟨⟨x,by simp [aR,hx,Lift.rn]⟩,fun c c' T f T' f' h h'=> ?_⟩⟩;rw[h]at h';simp at h';rw[h'.1]
theorem Sim.fgS(h:Sim γ φ s w)(k:Nat):Sim γ φ (Lift.fgS k s) w:=by
 refine⟨h.bound,fun i R' hR'=> ?_,h.adm⟩;simp only[Lift.fgS,zm]at hR';obtain⟨R,hR,rfl⟩:=hR';rcases h.root i R hR with h1|⟨cur,T,hh,hg,hl,hcells⟩
 ·exact .inl (by simp [h1,rnL])
 ·refine .inr ⟨cur,T,hh,hg,by simpa [aR]using hl,fun j av hav=> ?_⟩
  simp only[aR,List.getElem?_map,zm]at hav;obtain⟨av0,h0,rfl⟩:=hav;obtain⟨v,hv,hr⟩:=hcells j av0 h0;exact⟨v,hv,CRel.monoR (Kst.refl _ _) (ug k) (fun _ _ _ h=>⟨h,rfl⟩) hr⟩
theorem Sim.move(h:Sim γ φ s w){k:Nat}{R:Root}(hR:s k=some R)(hno:∀i R,s i=some R→∀(j:Nat) (av:AV),R.cells[j]? =some av→Lift.rn (fg k) av=av)(cur':Array Value)(T:TypeId)(cs:List AV)(hl:cs.length≤cur'.size)
  (hc:∀(j:Nat) (av:AV),cs[j]? =some av→Lift.rn (fg k) av=av∧∃v,cur'[j]? =some v∧CRel w γ φ s k j av v):
  ∃γ',γ' w.heap.size=.r k []∧Kst γ w γ' (w.alloc (.cells cur' T))∧LiveR (fg k) w γ φ s (w.alloc (.cells cur' T)) γ' (upd φ k w.heap.size) (upd s k (some { R with cells:=cs }))∧
   Sim γ' (upd φ k w.heap.size) (upd s k (some { R with cells:=cs })) (w.alloc (.cells cur' T)):=by
 let γ1:Labels:=fun b=>if γ b=.r k [] then .off else γ b
 have hγ1:∀b,(∀q,γ b=.r k q→q≠[])→γ1 b=γ b:=fun b hb=>by
  simp only[γ1];rw[if_neg (fun e=>hb [] e rfl)]
 let γ':Labels:=upd γ1 w.heap.size (.r k [])
 have hsz:∀b i p,γ b=.r i p→b<w.heap.size:=h.bound;have hlt:∀b,b<w.heap.size→γ' b=γ1 b:=fun b hb=>au _ _ (by omega)
 have hK:Kst γ w γ' (w.alloc (.cells cur' T)):=by
  refine⟨rfl,rfl,rfl,by simp,fun b hb hn=>⟨Below.heap_alloc _ _ _ hb, ?_⟩,fun b cur T f e=> ?_⟩
  ·rw[hlt b hb,hγ1 b (fun q e=>absurd e (hn k q))]
  ·have hb:=(Array.getElem?_eq_some_iff.1 e).1
   exact⟨cur,(Below.heap_alloc _ _ _ hb).trans e,rfl⟩
 have hkeep:∀b i q,γ b=.r i q→(i≠k∨q≠[])→γ' b=.r i q:=by
  intro b i q hb hne;rw[hlt b (hsz b i q hb),hγ1 b (fun q' e=>by rw[hb]at e;injection e with e1 e2;subst e1;subst e2;rcases hne with hne|hne;exact absurd rfl hne;exact hne)];exact hb
 have hLR:LiveR (fg k) w γ φ s (w.alloc (.cells cur' T)) γ' (upd φ k w.heap.size) (upd s k (some { R with cells:=cs })):=by
  intro i i' Ri hi hRi;obtain⟨rfl,hne⟩:=n7 hi;refine⟨au _ _ hne,Ri,by rw[au _ _ hne];exact hRi,rfl,id,fun hg=>hkeep _ _ _ hg (.inl hne),fun j x hx=>⟨⟨x,hx⟩,fun c c' T f T' f' e e'=> ?_⟩⟩;rw[Below.heap_alloc _ _ _ (Array.getElem?_eq_some_iff.1 e).1,e]at e';simp at e';rw[e'.1]
 have hcr:∀{i j:Nat} {av:AV} {v:Value},Lift.rn (fg k) av=av→CRel w γ φ s i j av v→CRel (w.alloc (.cells cur' T)) γ' (upd φ k w.heap.size) (upd s k (some { R with cells:=cs })) i j av v:=by
  intro i j av v hn hr;have:=CRel.monoR hK hLR (k:=i) (j:=j) (fun b q hq hb=>⟨hkeep b i q hb (.inr hq),Below.heap_alloc _ _ _ (hsz b i q hb)⟩) hr
  rwa [hn]at this
 refine⟨γ',aC _ _ _,hK,hLR,⟨fun b i p hb=> ?_,fun i Ri hi=> ?_,h.adm.mono hK⟩⟩
 ·by_cases e:b=w.heap.size
  ·subst e;simp
  ·have hb':γ1 b=.r i p:=by rw[← hb];exact(au _ _ e).symm
   simp only[γ1]at hb';split at hb'
   ·cases hb'
   ·have:=hsz b i p hb'
    simp
    omega
 ·by_cases e:i=k
  ·subst e
   rw[aC]at hi;obtain rfl:{ R with cells:=cs }=Ri:=by simpa using hi
   refine .inr ⟨cur',T,by rw[aC];exact heap_alloc_new w _,by rw[aC];exact aC _ _ _,hl,fun j av hav=> ?_⟩;obtain⟨hn,v,hv,hr⟩:=hc j av hav;exact⟨v,hv,hcr hn hr⟩
  ·rw[au _ _ e]at hi
   rcases h.root i Ri hi with h1|⟨cu,T',hh,hg,hl',hcells⟩
   ·exact .inl h1
   ·refine .inr ⟨cu,T',by rw[au _ _ e,Below.heap_alloc _ _ _ (hsz _ _ _ hg)];exact hh,by rw[au _ _ e];exact hkeep _ _ _ hg (.inl e),hl',fun j av hav=> ?_⟩
    obtain⟨v,hv,hr⟩:=hcells j av hav;exact⟨v,hv,hcr (hno i Ri hi j av hav) hr⟩
end
end Go.Lift
namespace Go.Lift
open Go.RowKit
theorem fO{α:Type}{a l:List α}{off n:Nat}(hl:l.length=n)(hfit:off+n≤a.length)(j:Nat):
  (a.take off++l++a.drop (off+n))[j]? =if off≤j∧j<off+n then l[j-off]? else a[j]? :=by
 have h1:(a.take off).length=off:=by simp;omega
 rw[List.append_assoc,List.getElem?_append,h1];by_cases hj:j<off
 ·rw[if_pos hj,if_neg (by omega),List.getElem?_take,if_pos hj]
 ·rw[if_neg hj,List.getElem?_append,hl]
  by_cases hj2:j-off<n
  ·rw[if_pos hj2,if_pos (by omega)]
  ·rw[if_neg hj2,if_neg (by omega),List.getElem?_drop]
   congr 1
   omega
theorem Eg:(∀av,Lift.rn some av=av)∧∀l,rnL some l=l:=by
 have h:∀(av:AV),Lift.rn some av=av:=by
  intro av;exact AV.rec (motive_1:=fun av=>Lift.rn some av=av) (motive_2:=fun l=>rnL some l=l) rfl rfl rfl (fun _=>rfl) (fun _ _ _=>rfl) (fun _ _=>rfl) (fun _ _=>rfl) (fun _ _ _=>rfl) (fun _ _=>rfl) (fun _=>rfl) (fun _=>rfl)
   (fun l h=>by simp only[Lift.rn,h]) (fun l h=>by simp only[Lift.rn,h]) (fun f l h=>by simp only[Lift.rn,h]) rfl (fun x l hx hl=>by simp only[rnL,hx,hl]) av
 exact⟨h,fun l=>by rw[aR,show Lift.rn some=id from funext h];simp⟩
structure TPost(γ:Labels)(φ:Nat→Nat)(σ:Sto)(w:World)(ks:Fg)(r:AV)(σ':Sto)(v:Value)(w':World)(γ':Labels)(φ':Nat→Nat):Prop where
 kst:Kst γ w γ' w'
 fix:∀k R,at_ σ k=some R→R.g=false→Stay γ φ γ' φ' k∧∃R',at_ σ' k=some R'∧R'.g=false
 sim:Sim γ' φ' (at_ σ') w'
 pers:∀av u,Rel w γ φ (at_ σ) av u→Rel w' γ' φ' (at_ σ') (ks.ap av) u
 rel:Rel w' γ' φ' (at_ σ') r v
theorem uV(σ news:Sto):at_ (σ++news)=over (at_ σ) σ.length news:=by
 funext k
 simp only[at_,over];rw[List.getElem?_append];by_cases h:k<σ.length
 ·rw[if_pos h,if_neg (by omega)]
 ·rw[if_neg h]
  by_cases h2:σ.length≤k∧k<σ.length+news.length
  ·rw[if_pos h2]
  ·rw[if_neg h2,List.getElem?_eq_none (by omega),List.getElem?_eq_none (by omega)]
theorem y7(σ:Sto){k:Nat}{R R':Root}(h:at_ σ k=some R):at_ (σ.set k (some R'))=upd (at_ σ) k (some R'):=by
 have hk:k<σ.length:=by
  by_cases hk:k<σ.length
  ·exact hk
  ·simp [at_,List.getElem?_eq_none (Nat.le_of_not_lt hk)]at h
 funext i
 simp only[at_,upd,List.getElem?_set];by_cases e:i=k
 ·subst e;simp [hk]
 ·rw[if_neg (Ne.symm e),if_neg e]
section
variable {P : Program} {σ : Sto} {ev : O → AV} {K : Fg → AV → Sto → Prop} {o : Oper}
def SoundT(P:Program)(σ:Sto)(ev:O→AV)(o:Oper)(K:Fg→AV→Sto→Prop):Prop:=
 ∃ks r σ',K ks r σ'∧∀γ φ w (ρ:Operand→Value),Sim γ φ (at_ σ) w→(∀X Y,cO X=some Y→X∈o.op.operands.toList→Rel w γ φ (at_ σ) (ev Y) (ρ X))→Fix ρ→
  Exec P (fun v w'=>∃γ' φ',TPost γ φ σ w ks r σ' v w' γ' φ') ((execOp ρ o).run P w)
theorem cw{i:I}(hc:cOp P o.op=some i)(h:gI P (at_ σ) ev σ.length i fun r news=>K .no r (σ++news)):SoundT P σ ev o K:=by
 obtain⟨r,news,hK,hs⟩:=CC hc h;refine⟨.no,r,σ++news,hK,fun γ φ w ρ hS hr hf=> ?_⟩;have hd:∀j,j<news.length→at_ σ (σ.length+j)=none:=fun j _=>by simp [at_]
 refine Exec.mono (hs γ φ (at_ σ) w ρ hS (fun _ _ h=>h) hd hr hf) fun v w' hq=> ?_
 obtain⟨γ',φ',hK',hL,hS',hR⟩:=hq;rw[← uV]at hL hS' hR;refine⟨γ',φ',hK',fun k R hk hg=> ?_,hS',fun av u hu=> ?_,hR⟩
 ·obtain⟨h1,R',h2,_,h3,h4,_⟩:=hL k R hk
  exact⟨⟨h1,h4⟩,R',h2,goff h3 hg⟩
 ·show Rel _ _ _ _ av u
  exact Rel.mono hK' hL av u hu
where
 Exec.mono {P:Program} {Q Q':Value→World→Prop} {r:Result Next} (h:Exec P Q r) (hq:∀v w,Q v w→Q' v w):Exec P Q' r:=by
  cases r with
  |ok x w=>
   cases x with
   |value v=>exact hq _ _ h
   |skip=>exact hq _ _ h
   |enter f args=>exact Calls.mono h fun e w' ⟨v,e,q⟩=>⟨v,e,hq _ _ q⟩
   |_=>exact h.elim
  |halt x w=>exact h.elim
theorem ra{γ:Labels}{φ:Nat→Nat}{w:World}(hS:Sim γ φ (at_ σ) w){k off n:Nat}{R:Root}(hR:at_ σ k=some R){l:List AV}{vs:List Value}(hl:RelL w γ φ (at_ σ) l vs)(hn:l.length=n)(hfit:off+n≤R.cells.length)(hpos:1≤n)
  (htr:(((R.cells.drop off).take n).all trB)=true):
  ∃cur T,w.heap[φ k]? =some (.cells cur T (0,0))∧off+n≤cur.size∧∀r v,Rel w γ φ (at_ σ) r v→
   TPost γ φ σ w .no r (σ.set k (some { R with cells:=R.cells.take off++l++R.cells.drop (off+n) })) v (w.setRow (φ k) (cur.toList.take off++vs++cur.toList.drop (off+n)).toArray) γ φ:=by
 rcases hS.root k R hR with h0|⟨cur,T,hh,hg,hsz,hcells⟩
 ·simp [h0]at hfit;omega
 refine⟨cur,T,hh,by omega,fun r v hr=> ?_⟩
 have hvl:=hl.len;have hcl:vs.length=n:=by omega
 have hnt:∀(j:Nat) (x:D),off≤j→j<off+n→R.cells[j]? ≠some (.tr x):=by
  intro j x h1 h2 h3;have hm:AV.tr x∈(R.cells.drop off).take n:=by
   apply List.mem_of_getElem? (i:=j-off);rw[List.getElem?_take,if_pos (by omega),List.getElem?_drop,show off+(j-off)=j by omega];exact h3
  have:=List.all_eq_true.1 htr _ hm;simp [trB]at this
 obtain⟨hK,hL,hS'⟩:=hS.setRow hR hh hg (cur.toList.take off++vs++cur.toList.drop (off+n)).toArray (by simp;omega) (R.cells.take off++l++R.cells.drop (off+n)) (by simp;omega)
  (fun j av hav=>by
   rw[fO hn hfit]at hav;split at hav
   ·rename_i hin
    obtain⟨u,hu,hrel⟩:=hl.get hav;refine⟨u, ?_,CRel.of_rel hrel⟩;rw[List.getElem?_toArray,fO hcl (by simp;omega),if_pos hin];exact hu
   ·rename_i hin
    obtain⟨u,hu,hrel⟩:=hcells j av hav;refine⟨u, ?_,hrel⟩;rw[List.getElem?_toArray,fO hcl (by simp;omega),if_neg hin];simpa using hu)
  (fun j x hx=>by
   have hin:¬(off≤j∧j<off+n):=fun h=>hnt j x h.1 h.2 hx
   refine⟨⟨x,by rw[fO hn hfit,if_neg hin];exact hx⟩, ?_⟩;rw[List.getElem?_toArray,fO hcl (by simp;omega),if_neg hin]
   simp)
 rw[← y7 σ hR]at hL hS';refine⟨hK,fun i Ri hi hgi=> ?_,hS',fun av u hu=> ?_,Rel.mono hK hL r v hr⟩
 ·obtain⟨h1,R',h2,_,h3,h4,_⟩:=hL i Ri hi
  exact⟨⟨h1,h4⟩,R',h2,goff h3 hgi⟩
 ·show Rel _ _ _ _ av u
  exact Rel.mono hK hL av u hu
theorem Kb{γ:Labels}{φ:Nat→Nat}{w:World}{s:St}{x:AV}{v:Value}(h:okC x=true)(hr:Rel w γ φ s x v):v.oneCell'=true:=by
 cases x with
 |d y=>simp only[Rel]at hr;exact Df hr
 |nil=>rw[dX hr];rfl
 |own k a b=>simp only[Rel]at hr;obtain⟨R,_,⟨rfl,_⟩|⟨c,cur,T,rfl,_⟩⟩:=hr<;>rfl
 |ptr k a=>simp only[Rel]at hr;obtain⟨R,_,rfl⟩:=hr;rfl
 |clo f l=>simp only[Rel]at hr;obtain⟨vs,rfl,_⟩:=hr;rfl
 |_=>simp [okC]at h
theorem En{γ:Labels}{φ:Nat→Nat}{w:World}{s:St}{l:List AV}{vs:List Value}(h:l.all okC=true)(hr:RelL w γ φ s l vs):∀u∈vs,u.oneCell'=true:=by
 intro u hu;obtain⟨j,hj,rfl⟩:=List.mem_iff_getElem.1 hu;have hl:=hr.len;obtain⟨v,hv,hrel⟩:=hr.get (zg (show j<l.length by omega));rw[zg hj]at hv;simp at hv;rw[hv];exact Kb (List.all_eq_true.1 h _ (List.getElem_mem _)) hrel
theorem t_st(t:TypeId)(a x:Operand)(ho:o.op=.store t a x){n:Nat}{a' x':O}(hn:szOf P t=some n)(h1:1≤n)(ha:cO a=some a')(hx:cO x=some x')(h:tI P σ ev (.st n a' x') K):SoundT P σ ev o K:=by
 simp only[tI]at h;split at h
 ·rename_i k off hev
  split at h
  ·rename_i R hR
   split at h
   ·rename_i l hl
    obtain⟨hlen,hok,hfit,htr,h⟩:=h;refine⟨_,_,_,h,fun γ φ w ρ hS hr _=> ?_⟩;have hp:=hr a a' ha (by simp [ho,Op.operands]);have hq:=hr x x' hx (by simp [ho,Op.operands]);rw[hev]at hp;simp only[Rel]at hp;obtain⟨_,_,hp⟩:=hp;have hcl:=rJ hl hq;obtain⟨cur,T,hh,hsz,hpost⟩:=ra hS hR hcl hlen hfit h1 htr;have hvl:=hcl.len;obtain⟨i,hi,hisz⟩:∃i,P.info? t=some i∧i.size=n:=by simpa [szOf]using hn
    have hst:=run_storeCells_at P (φ k) off T (ρ x).cells.toList 0 cur w hh (by simp at hvl ⊢;omega) (En hok hcl);have hcs:(ρ x).cells.size=n:=by simp at hvl;omega
    simp only[Nat.add_zero,Array.length_toList,hcs]at hst;have hrun:(execOp ρ o).run P w=.ok .skip (w.setRow (φ k) (cur.toList.take off++(ρ x).cells.toList++cur.toList.drop (off+n)).toArray):=by
     simp [execOp,ho,Instr.storeAt,Instr.sureAddr,hp,storeVar,sizeOf,typeInfo,hi,hisz,hcs,hst]
    rw[hrun];simp only[Exec];exact⟨γ,φ,hpost _ _ (by simp [Rel])⟩
   ·exact h.elim
  ·exact h.elim
 ·exact h.elim
theorem LP(c:Call)(x y:Operand)(t u:TypeId)(ho:o.op=.call c)(hcal:c.callee=.builtin .copy)(hargs:c.args.toList=[x,y])(hat:c.argTypes.toList=[t,u]){e:TypeId}{n:Nat}{x' y':O}(hx:cO x=some x')(hy:cO y=some y')
  (hu:P.underlying t=some (.slice e)) (hn:szOf P e=some n) (h1:1≤n) (h:tI P σ ev (.copy n x' y') K):SoundT P σ ev o K:=by
 simp only[tI]at h;split at h
 ·rename_i k off nd hev
  split at h
  ·rename_i R m hR hm
   split at h
   ·rename_i l hl
    obtain⟨hfit,htr,h⟩:=h;refine⟨_,_,_,h,fun γ φ w ρ hS hr _=> ?_⟩;have hp:=hr x x' hx (by simp [ho,Op.operands,Call.operands,hcal,hargs]);have hq:=hr y y' hy (by simp [ho,Op.operands,Call.operands,hcal,hargs]);rw[hev]at hp;have ha:c.args= #[x,y]:=by rw[← Array.toArray_toList (xs:=c.args),hargs]
    have ht:c.argTypes= #[t,u]:=by rw[← Array.toArray_toList (xs:=c.argTypes),hat]
    obtain⟨i,hi,hisz⟩:∃i,P.info? e=some i∧i.size=n:=by simpa [szOf]using hn
    obtain⟨A,cc,hv,hll,hsrc⟩:=vV hS (fun _ _ h=>h) hm hl (fun h=>by rw[h];simp) hq;simp only[Rel]at hp;obtain⟨R',hR',hp⟩:=hp;rw[hR]at hR';obtain rfl:R=R':=by simpa using hR'
    by_cases h0:min m nd*n=0
    ·-- nothing is copied
     have hmin:min m nd=0:=by rcases Nat.mul_eq_zero.1 h0 with h|h<;>omega
     have hl0:l=[]:=List.eq_nil_of_length_eq_zero (by rw[hll,h0]);have hσ:σ.set k (some { R with cells:=R.cells.take off++l++R.cells.drop (off+min m nd*n) })=σ:=by
      rw[hl0,h0];simp only[List.append_nil,Nat.add_zero,List.take_append_drop];apply List.ext_getElem?;intro j;rw[List.getElem?_set];split
      ·rename_i hj
       subst hj;simp only[at_]at hR;by_cases hk:k<σ.length
       ·rw[if_pos hk]
        rw[zg hk]at hR ⊢;simp at hR;rw[hR]
       ·rw[if_neg hk,List.getElem?_eq_none (by omega)]
      ·rfl
     rw[hσ];have hfc:(Builtin.firstCells n 0 (ρ y)).run P w=.ok #[] w:=by
      rw[hv];cases A<;>simp [Builtin.firstCells,loadCells,loadCellsFrom]
     have hrun:(execOp ρ o).run P w=.ok (.value (.int .i64 0)) w:=by
      have hlen:(Builtin.lenOf (ρ y)).run P w=.ok m w:=by rw[hv];rfl
      have hnm:Nat.min m nd=0:=hmin;rcases hp with ⟨hp,rfl,_⟩|⟨c2,cur,T,hp,_⟩
      ·simp [execOp,ho,resolve,hcal,ha,ht,invoke,builtin,Builtin.copy_,run_underlying hu,hp,hlen,sizeOf,typeInfo,hi,hisz,hfc,goInt]
      ·simp [execOp,ho,resolve,hcal,ha,ht,invoke,builtin,Builtin.copy_,run_underlying hu,hp,hlen,sizeOf,typeInfo,hi,hisz,hnm,hfc,goInt,storeCells]
     rw[hrun];simp only[Exec];rw[hmin];refine⟨γ,φ,Kst.refl _ _,fun i Ri hi hg=>⟨Stay.refl,Ri,hi,hg⟩,hS,fun av u hu=> ?_,bp⟩
     show Rel _ _ _ _ av u
     exact hu
    ·obtain⟨a,news,rfl,hnl,hcells,hrel,hone⟩:=hsrc.resolve_left h0
     obtain⟨cur,T,hh,hsz,hpost⟩:=ra hS hR hrel hll hfit (by omega) htr;rcases hp with ⟨_,rfl,_⟩|⟨c2,cur2,T2,hp,_⟩
     ·simp at h0
     have hf:=run_firstCells_some (P:=P) w n (min m nd) a m cc news hnl hcells
     have hst:=run_storeCells_at P (φ k) off T news 0 cur w hh (by omega) hone;simp only[Nat.add_zero,hnl]at hst;have hrun:(execOp ρ o).run P w=.ok (.value (.int .i64 (min m nd:Nat))) (w.setRow (φ k) (cur.toList.take off++news++cur.toList.drop (off+min m nd*n)).toArray):=by
      have hlen:(Builtin.lenOf (ρ y)).run P w=.ok m w:=by rw[hv];rfl
      have hnm:Nat.min m nd=min m nd:=rfl;rw[hv]at hlen;simp only[execOp,ho,resolve,hcal,ha,ht,invoke,builtin,Sem.run_bind,Sem.run_pure,Result.andThen_ok,List.map_toArray,List.map_cons,List.map_nil,hp,hv,Builtin.copy_];simp [run_underlying hu,hlen,sizeOf,typeInfo,hi,hisz,hf,hst,goInt]
     rw[hrun];simp only[Exec];exact⟨γ,φ,hpost _ _ bp⟩
   ·exact h.elim
  ·exact h.elim
 ·exact h.elim
end
end Go.Lift
namespace Go.Lift
open Go.RowKit
section
variable {w : World} {γ : Labels} {φ : Nat → Nat} {s : St}
theorem M4{σ:Sto}(hS:Sim γ φ (at_ σ) w){M:List Nat}(hM:M.Nodup)(hin:rwIn σ M=true):Sim (labW M γ) (fun i=>φ (M.getD i 0)) (at_ (rwS σ M)) w:=by
 refine⟨fun b k p hb=> ?_,fun i R0 hi=> ?_,fun b l hb=>by obtain⟨h1,h2⟩:=hS.adm b l hb;exact⟨by simp [labW,h1],h2⟩⟩
 ·unfold labW at hb
  cases hg:γ b with
  |r k' p'=>exact hS.bound b k' p' hg
  |_=>simp [hg]at hb
 ·simp only[at_,rwS,List.getElem?_map]at hi
  cases hMi:M[i]? with
  |none=>simp [hMi]at hi
  |some k=>
   rw[hMi]at hi;simp only[Option.map_some,Option.join_some]at hi;change (at_ σ k).map (fun R:Root=>{ R with g:=false })=some R0 at hi;simp only[zm]at hi;obtain⟨R,hR,rfl⟩:=hi;have hflat:=List.all_eq_true.1 hin k (List.mem_of_getElem? hMi);simp only[hR]at hflat;have hgd:M.getD i 0=k:=by simp [zq,hMi]
   rcases hS.root k R hR with h0|⟨cur,T,hh,hg,hl,hcells⟩
   ·exact .inl h0
   ·refine .inr ⟨cur,T,by rw[hgd];exact hh,by show labW M γ (φ (M.getD i 0))=_;rw[hgd];simp [labW,hg,cz hM hMi],hl,fun j av hav=> ?_⟩
    obtain⟨v,hv,hr⟩:=hcells j av hav;refine⟨v,hv,CRel.of_rel ?_⟩;have hf:=List.all_eq_true.1 hflat av (List.mem_of_getElem? hav);cases av with
    |any=>simp [Rel]
    |nil=>simpa only[CRel,Rel]using hr
    |d y=>simp only[CRel,Rel]at hr ⊢;exact Rd.mono (fun b hb=>⟨AG hb,rfl⟩) _ _ hr
    |_=>simp [CI]at hf
theorem Ed{σ:Sto}(hS:Sim γ φ (at_ σ) w){M:List Nat}{x y:AV}{v:Value}(h:rw1 (at_ σ) M x=some y)(hr:Rel w γ φ (at_ σ) x v):Rel w (labW M γ) (fun i=>φ (M.getD i 0)) (at_ (rwS σ M)) y v:=by
 have hat:∀{i k:Nat} {R:Root},M[i]? =some k→at_ σ k=some R→at_ (rwS σ M) i=some { R with g:=false }:=by
  intro i k R hi hR;simp only[rwS,at_,List.getElem?_map,hi,Option.map_some,Option.join_some];change (at_ σ k).map _=_;rw[hR]
  rfl
 unfold rw1 at h;split at h
 ·rename_i k o n
  split at h
  ·rename_i i hi
   simp only[zj]at h;subst h;have hMi:=az hi;have hgd:M.getD i 0=k:=by simp [zq,hMi]
   simp only[Rel]at hr ⊢;obtain⟨R,hR,hr⟩:=hr;refine⟨_,hat hMi hR, ?_⟩;rcases hr with hr|⟨c,cur,T,hv,hn,hg,hh,_⟩
   ·exact .inl hr
   ·exact .inr ⟨c,cur,T,by rw[hgd];exact hv,hn,by show labW M γ (φ (M.getD i 0))=_;rw[hgd];simp [labW,hg,hi],by rw[hgd];exact hh,fun hg=>by cases hg⟩
  ·rename_i hi
   simp only[zm]at h;obtain⟨d,hd,rfl⟩:=h;simp only[Rel];exact qj hS hd hr (by simp) (fun k' o' n' e=>by injection e with e1;rw[← e1];exact hi)
 ·rename_i k o
  simp only[zm]at h;obtain⟨i,hi,rfl⟩:=h;have hMi:=az hi;have hgd:M.getD i 0=k:=by simp [zq,hMi]
  simp only[Rel]at hr ⊢;obtain⟨R,hR,hr⟩:=hr;exact⟨_,hat hMi hR,by rw[hgd];exact hr⟩
 ·cases h
 ·rename_i hne _ hns
  simp only[zm]at h;obtain⟨d,hd,rfl⟩:=h;simp only[Rel];exact qj hS hd hr (fun k j e=>hns k j e) (fun k o n e=>absurd e (hne k o n))
theorem Ec{σ:Sto}(hS:Sim γ φ (at_ σ) w){M:List Nat}:∀{l m:List AV} {vs:List Value},rwL (at_ σ) M l=some m→RelL w γ φ (at_ σ) l vs→RelL w (labW M γ) (fun i=>φ (M.getD i 0)) (at_ (rwS σ M)) m vs
 | [],m,vs,h,hr=>by
  simp only[rwL,zj]at h;subst h;simpa only[RelL]using hr
 |x :: l,m,vs,h,hr=>by
  simp only[rwL]at h;split at h
  ·rename_i y m' hy hm
   simp only[zj]at h;subst h;simp only[RelL]at hr ⊢;obtain⟨v,vs',rfl,hx,hl⟩:=hr;refine⟨v,vs',rfl, ?_,Ec hS hm hl⟩;unfold rwA at hy;split at hy
   ·simp only[zm]at hy
    obtain⟨m2,hm2,rfl⟩:=hy;simp only[Rel]at hx ⊢;obtain⟨us,rfl,hus⟩:=hx;exact⟨us,rfl,go hm2 hus⟩
   ·exact Ed hS hy hx
  ·cases h
where
 go:∀{l m:List AV} {vs:List Value},rwC (at_ σ) M l=some m→RelL w γ φ (at_ σ) l vs→RelL w (labW M γ) (fun i=>φ (M.getD i 0)) (at_ (rwS σ M)) m vs
  | [],m,vs,h,hr=>by
   simp only[rwC,zj]at h;subst h;simpa only[RelL]using hr
  |x :: l,m,vs,h,hr=>by
   simp only[rwC]at h;split at h
   ·rename_i y m' hy hm
    simp only[zj]at h;subst h;simp only[RelL]at hr ⊢;obtain⟨v,vs',rfl,hx,hl⟩:=hr;exact⟨v,vs',rfl,Ed hS hy hx,go hm hl⟩
   ·cases h
theorem yL{σ σ1:Sto}:∀{M:List Nat} {i:Nat},v7 σ σ1 M i=true→∀(d k:Nat),M[d]? =some k→∃R R1,at_ σ k=some R∧at_ σ1 (i+d)=some R1∧R1.cells.length=R.cells.length∧R1.e=R.e∧R1.cells.all kK=true
 | [],_,_,d,k,h=>by simp at h
 |k0 :: M,i,hw,d,k,h=>by
  simp only[v7,Bool.and_eq_true]at hw;cases d with
  |zero=>
   simp at h;subst h;have h1:=hw.1;split at h1
   ·rename_i R R1 hR hR1
    simp only[Bool.and_eq_true,beq_iff_eq]at h1;exact⟨R,R1,hR,hR1,h1.1.1,h1.1.2,h1.2⟩
   ·cases h1
  |succ d=>
   obtain⟨R,R1,h1,h2,h3⟩:=yL hw.2 d k (by simpa using h);exact⟨R,R1,h1,by rw[show i+(d+1)=i+1+d by omega];exact h2,h3⟩
theorem BG{σ1:Sto}{fz:Bool}:∀(M:List Nat) (i:Nat) (σ:Sto),M.Nodup→(∀(d k:Nat),M[d]? =some k→∃R R1,at_ σ k=some R∧at_ σ1 (i+d)=some R1)→
  (gr σ1 fz M i σ).length=σ.length∧(∀k,aP k M=none→at_ (gr σ1 fz M i σ) k=at_ σ k)∧
  ∀(d k:Nat) (R R1:Root),M[d]? =some k→at_ σ k=some R→at_ σ1 (i+d)=some R1→at_ (gr σ1 fz M i σ) k=some { R with g:=R.g&& !fz,cells:=R1.cells }
 | [],i,σ,_,_=>⟨rfl,fun _ _=>rfl,fun d k R R1 h=>by simp at h⟩
 |k0 :: M,i,σ,hn,h=>by
  simp only[List.nodup_cons]at hn;obtain⟨R0,R01,hR0,hR01⟩:=h 0 k0 (by simp);rw[Nat.add_zero]at hR01;have hset:at_ (σ.set k0 (some { R0 with g:=R0.g&& !fz,cells:=R01.cells }))=upd (at_ σ) k0 (some { R0 with g:=R0.g&& !fz,cells:=R01.cells }):=y7 σ hR0;have hne:∀(d k:Nat),M[d]? =some k→k≠k0:=fun d k hd e=>hn.1 (e ▸ List.mem_of_getElem? hd)
  obtain⟨h1,h2,h3⟩:=BG (σ1:=σ1) (fz:=fz) M (i+1) (σ.set k0 (some { R0 with g:=R0.g&& !fz,cells:=R01.cells })) hn.2 (fun d k hd=>by
   obtain⟨R,R1,e1,e2⟩:=h (d+1) k (by simpa using hd);exact⟨R,R1,by rw[hset,au _ _ (hne d k hd)];exact e1,by rw[show i+1+d=i+(d+1)by omega];exact e2⟩)
  have hput:gr σ1 fz (k0 :: M) i σ=gr σ1 fz M (i+1) (σ.set k0 (some { R0 with g:=R0.g&& !fz,cells:=R01.cells })):=by
   simp only[gr,hR0,hR01]
  rw[hput];refine⟨by rw[h1];simp,fun k hk=> ?_,fun d k R R1 hd hR hR1=> ?_⟩
  ·simp only[aP]at hk
   split at hk
   ·cases hk
   ·rename_i hne'
    simp only[Option.map_eq_none_iff]at hk;rw[h2 k hk,hset,au _ _ (Ne.symm hne')]
  ·cases d with
   |zero=>
    simp at hd;subst hd;rw[Nat.add_zero]at hR1;have hnone:aP k0 M=none:=by
     cases hp:aP k0 M with
     |none=>rfl
     |some j=>exact absurd (List.mem_of_getElem? (az hp)) hn.1
    rw[h2 k0 hnone,hset,aC];rw[hR0]at hR;rw[hR01]at hR1;simp at hR hR1;rw[← hR, ← hR1]
   |succ d=>
    have hd':M[d]? =some k:=by simpa using hd
    exact h3 d k R R1 hd' (by rw[hset,au _ _ (hne d k hd')];exact hR) (by rw[show i+1+d=i+(d+1)by omega];exact hR1)
theorem u0:∀{σ:Sto} {k:Nat} {R:Root},ol σ=true→at_ σ k=some R→R.cells.all kK=true
 | [],_,_,_,h=>by simp [at_]at h
 |some R0 :: σ,0,R,hs,h=>by
  simp only[ol,Bool.and_eq_true]at hs;simp [at_]at h;exact h ▸ hs.1
 |none :: σ,0,R,hs,h=>by simp [at_]at h
 |some R0 :: σ,k+1,R,hs,h=>by
  simp only[ol,Bool.and_eq_true]at hs;exact u0 (k:=k) hs.2 (by simpa [at_]using h)
 |none :: σ,k+1,R,hs,h=>by
  simp only[ol]at hs;exact u0 (k:=k) hs (by simpa [at_]using h)
end
section
variable {P : Program} {σ : Sto} {ev : O → AV} {K : Fg → AV → Sto → Prop} {o : Oper}
theorem JU{fz:Bool}{γ:Labels}{φ:Nat→Nat}{w w1:World}{M:List Nat}{γ1:Labels}{φ1:Nat→Nat}{σ1:Sto}{res:AV}{v:Value}(hS:Sim γ φ (at_ σ) w)(hM:M.Nodup)(hin:rwIn σ M=true)(hout:v7 σ σ1 M 0=true)(hnew:ol (σ1.drop M.length)=true)
  (hK:Kst (labW M γ) w γ1 w1) (hstay:∀k R,at_ (rwS σ M) k=some R→R.g=false→φ1 k=φ (M.getD k 0)∧(labW M γ (φ (M.getD k 0))=.r k []→γ1 (φ (M.getD k 0))=.r k [])) (hS1:Sim γ1 φ1 (at_ σ1) w1) (hres:Rel w1 γ1 φ1 (at_ σ1) res v)
  (hsc:scal res=true):∃γ' φ',TPost γ φ σ w .no (Lift.rn (rwN M fz σ.length) res) (gr σ1 fz M 0 σ++σ1.drop M.length) v w1 γ' φ':=by
 let ν:Nat→Option Nat:=fun i=>if i<M.length then some (M.getD i 0) else some (σ.length+(i-M.length))
 let ownB:Nat→Bool:=fun b=>match γ b with
  | .r k _=>(aP k M).isSome
  |_=>false
 let γ':Labels:=fun b=>if b<w.heap.size∧ownB b=false then γ b else (γ1 b).rn ν
 let φ':Nat→Nat:=fun k=>if k<σ.length then φ k else φ1 (k-σ.length+M.length)
 have hget:=yL hout;obtain⟨hplen,hpo,hpm⟩:=BG (σ1:=σ1) (fz:=fz) M 0 σ hM (fun d k hd=>by
  obtain⟨R,R1,h1,h2,_⟩:=hget d k hd;exact⟨R,R1,h1,h2⟩)
 have hlabr:∀b,ownB b=false→∀i p,labW M γ b≠ .r i p:=by
  intro b hb i p h;simp only[ownB]at hb;unfold labW at h;cases hg:γ b with
  |r k q=>
   simp only[hg]at hb h;cases hp:aP k M with
   |none=>simp [hp]at h
   |some j=>simp [hp]at hb
  |_=>simp [hg]at h
 have hF1:∀b,b<w.heap.size→ownB b=false→w1.heap[b]? =w.heap[b]? ∧γ1 b=labW M γ b:=fun b hb ho=>hK.blk b hb (hlabr b ho)
 have hγo:∀b,b<w.heap.size→ownB b=false→γ' b=γ b:=fun b hb ho=>by simp only[γ'];rw[if_pos ⟨hb,ho⟩]
 have hγn:∀b i p,γ1 b=.r i p→γ' b=(Lab.r i p).rn ν:=by
  intro b i p h;simp only[γ'];rw[if_neg,h]
  rintro⟨hb,ho⟩
  exact hlabr b ho i p ((hF1 b hb ho).2 ▸ h)
 have hoN:∀b k q,γ b=.r k q→aP k M=none→ownB b=false:=fun b k q h hp=>by simp [ownB,h,hp]
 have hoS:∀b k q i,γ b=.r k q→aP k M=some i→ownB b=true:=fun b k q i h hp=>by simp [ownB,h,hp]
 have hlt:∀k R,at_ σ k=some R→k<σ.length:=fun k R h=>by
  by_cases hk:k<σ.length
  ·exact hk
  ·simp [at_,List.getElem?_eq_none (Nat.le_of_not_lt hk)]at h
 have hs1:∀k,k<σ.length→at_ (gr σ1 fz M 0 σ++σ1.drop M.length) k=at_ (gr σ1 fz M 0 σ) k:=fun k hk=>by
  simp only[at_];rw[List.getElem?_append_left (by rw[hplen];exact hk)]
 have hs2:∀k,¬ k<σ.length→at_ (gr σ1 fz M 0 σ++σ1.drop M.length) k=at_ σ1 (M.length+(k-σ.length)):=fun k hk=>by
  simp only[at_];rw[List.getElem?_append_right (by rw[hplen];omega),List.getElem?_drop,hplen]
 have hMst:∀i k R,M[i]? =some k→at_ σ k=some R→φ1 i=φ k∧(γ (φ k)=.r k []→γ1 (φ k)=.r i []):=by
  intro i k R hi hR;have hgd:M.getD i 0=k:=by simp [zq,hi]
  have hrw:at_ (rwS σ M) i=some { R with g:=false }:=by
   simp only[rwS,at_,List.getElem?_map,hi,Option.map_some,Option.join_some];change (at_ σ k).map _=_;rw[hR]
   rfl
  have:=hstay i _ hrw rfl;rw[hgd]at this;exact⟨this.1,fun hl=>this.2 (by simp [labW,hl,cz hM hi])⟩
 have hflat:∀i k R,M[i]? =some k→at_ σ k=some R→R.cells.all CI=true:=fun i k R hi hR=>by
  have:=List.all_eq_true.1 hin k (List.mem_of_getElem? hi);simpa [hR]using this
 have hKst:Kst γ w γ' w1:=⟨hK.os,hK.tape,hK.output,hK.size,fun b hb hn=>by
   have ho:ownB b=false:=by
    simp only[ownB]
   exact⟨(hF1 b hb ho).1,hγo b hb ho⟩,hK.shape⟩
 have hνM:∀i k,M[i]? =some k→ν i=some k:=fun i k hi=>by
  have hi':i<M.length:=(List.getElem?_eq_some_iff.1 hi).1;simp only[ν];rw[if_pos hi',zq,hi]
  rfl
 have hroot:∀k R,at_ σ k=some R→∃R',at_ (gr σ1 fz M 0 σ++σ1.drop M.length) k=some R'∧R'.e=R.e∧(R'.g=true→R.g=true)∧(aP k M=none→R'=R):=by
  intro k R hR;rw[hs1 k (hlt k R hR)];cases hp:aP k M with
  |none=>exact⟨R,by rw[hpo k hp];exact hR,rfl,id,fun _=>rfl⟩
  |some i=>
   obtain⟨R0,R1,h1,h2,_⟩:=hget i k (az hp);exact⟨{ R with g:=R.g&& !fz,cells:=R1.cells },hpm i k R R1 (az hp) hR h2,rfl,fun h=>by simp at h;exact h.1,fun h=>by cases h⟩
 have hlabL:∀k R,at_ σ k=some R→γ (φ k)=.r k []→γ' (φ k)=.r k []:=by
  intro k R hR hl;cases hp:aP k M with
  |none=>rw[hγo _ (hS.bound _ _ _ hl) (hoN _ _ _ hl hp)];exact hl
  |some i=>
   have h1:=(hMst i k R (az hp) hR).2 hl;rw[hγn _ _ _ h1];simp [Lab.rn,hνM i k (az hp)]
 have hL:Live w γ φ (at_ σ) w1 γ' φ' (at_ (gr σ1 fz M 0 σ++σ1.drop M.length)):=by
  intro k R hR;obtain⟨R',h1,h2,h3,h4⟩:=hroot k R hR;refine⟨by simp only[φ',if_pos (hlt k R hR)],R',h1,h2,h3,hlabL k R hR,fun j x hx=> ?_⟩;cases hp:aP k M with
  |some i=>
   have:=List.all_eq_true.1 (hflat i k R (az hp) hR) _ (List.mem_of_getElem? hx);simp [CI]at this
  |none=>
   refine⟨⟨x,by rw[h4 hp];exact hx⟩,fun c c' T f T' f' e e'=> ?_⟩;rcases hS.root k R hR with h0|⟨_,_,_,hl,_⟩
   ·simp [h0]at hx
   rw[(hF1 _ (hS.bound _ _ _ hl) (hoN _ _ _ hl hp)).1,e]at e'
   simp at e';rw[e'.1]
 refine⟨γ',φ',hKst,fun k R hR hg=> ?_,⟨fun b k p hb=> ?_,fun k R' hR'=> ?_,hS.adm.mono hKst⟩,fun av u hu=> ?_, ?_⟩
 ·obtain⟨R',h1,h2,h3,h4⟩:=hroot k R hR
  exact⟨⟨by simp only[φ',if_pos (hlt k R hR)],hlabL k R hR⟩,R',h1,by cases hg':R'.g with|false=>rfl|true=>exact absurd (h3 hg') (by simp [hg])⟩
 ·simp only[γ']at hb
  split at hb
  ·exact Nat.lt_of_lt_of_le (hS.bound b k p hb) hK.size
  ·cases hg:γ1 b with
   |r i q=>exact hS1.bound b i q hg
   |im=>simp [hg,Lab.rn]at hb
   |off=>simp [hg,Lab.rn]at hb
 ·by_cases hk:k<σ.length
  ·rw[hs1 k hk]at hR'
   cases hp:aP k M with
   |none=>
    rw[hpo k hp]at hR';rcases hS.root k R' hR' with h0|⟨cur,T,hh,hl,hsz,hcells⟩
    ·exact .inl h0
    have hbk:=hS.bound _ _ _ hl
    have hon:=hoN _ _ _ hl hp;refine .inr ⟨cur,T,by simp only[φ',if_pos hk];rw[(hF1 _ hbk hon).1];exact hh,by simp only[φ',if_pos hk];rw[hγo _ hbk hon];exact hl,hsz,fun j av hav=> ?_⟩;obtain⟨u,hu,hr⟩:=hcells j av hav;exact⟨u,hu,CRel.mono hKst hL (fun b q hb=>by rw[hγo b (hS.bound _ _ _ hb) (hoN _ _ _ hb hp)];exact hb) (fun b q _ hb=>(hF1 b (hS.bound _ _ _ hb) (hoN _ _ _ hb hp)).1) hr⟩
   |some i=>
    have hMi:=az hp;obtain⟨R,R1,hR,hR1,hlen,_,hfl⟩:=hget i k hMi;rw[Nat.zero_add]at hR1;rw[hpm i k R R1 hMi hR (by rw[Nat.zero_add];exact hR1)]at hR';obtain rfl:{ R with g:=R.g&& !fz,cells:=R1.cells }=R':=by simpa using hR'
    by_cases h0:R1.cells=[]
    ·exact .inl h0
    rcases hS1.root i R1 hR1 with h0'|⟨cur,T,hh,hl1,hsz,hcells⟩
    ·exact absurd h0' h0
    rcases hS.root k R hR with h0'|⟨cur0,T0,hh0,hl,_⟩
    ·exfalso
     apply h0;exact List.eq_nil_of_length_eq_zero (by rw[hlen,h0'];rfl)
    have hst:=hMst i k R hMi hR;refine .inr ⟨cur,T,by simp only[φ',if_pos hk];rw[← hst.1];exact hh,by simp only[φ',if_pos hk];exact hlabL k R hR hl,hsz,fun j av hav=> ?_⟩;obtain⟨u,hu,hr⟩:=hcells j av hav;exact⟨u,hu,n6 (List.all_eq_true.1 hfl av (List.mem_of_getElem? hav)) hr⟩
  ·rw[hs2 k hk]at hR'
   have hfl:=u0 (σ:=σ1.drop M.length) (k:=k-σ.length) (R:=R') hnew (by simp only[at_,List.getElem?_drop]at hR' ⊢;exact hR');rcases hS1.root _ R' hR' with h0|⟨cur,T,hh,hl1,hsz,hcells⟩
   ·exact .inl h0
   have hφk:φ' k=φ1 (M.length+(k-σ.length)):=by simp only[φ',if_neg hk];rw[Nat.add_comm]
   refine .inr ⟨cur,T,by rw[hφk];exact hh, ?_,hsz,fun j av hav=> ?_⟩
   ·rw[hφk,hγn _ _ _ hl1]
    simp only[Lab.rn,ν];rw[if_neg (by omega)];simp only
    congr 1
    omega
   ·obtain⟨u,hu,hr⟩:=hcells j av hav
    exact⟨u,hu,n6 (List.all_eq_true.1 hfl av (List.mem_of_getElem? hav)) hr⟩
 ·show Rel _ _ _ _ av u
  exact Rel.mono hKst hL av u hu
 ·refine Eb (fun i k' R hi hR=> ?_) res v hsc hres
  unfold rwN at hi;split at hi
  ·rename_i him
   split at hi
   ·rename_i hfz
    obtain⟨R0,R1,h1,h2,h3,h4,h5⟩:=hget i k' hi;rw[Nat.zero_add]at h2;rw[h2]at hR;obtain rfl:R1=R:=by simpa using hR
    have hk:=hlt k' R0 h1;refine⟨by simp only[φ',if_pos hk];exact(hMst i k' R0 hi h1).1.symm,⟨{ R0 with g:=R0.g&& !fz,cells:=R1.cells },by rw[hs1 k' hk];exact hpm i k' R0 R1 hi h1 (by rw[Nat.zero_add];exact h2),h4.symm,fun h=>by simp [hfz]at h,fun j x hx=>hx⟩,fun hl=> ?_⟩;rw[hγn _ _ _ hl];simp [Lab.rn,hνM i k' hi]
   ·cases hi
  ·rename_i him
   simp only[zj]at hi;subst hi;have hnk:¬ σ.length+(i-M.length)<σ.length:=by omega
   refine⟨by simp only[φ',if_neg hnk];congr 1;omega,⟨R,by rw[hs2 _ hnk,show M.length+(σ.length+(i-M.length)-σ.length)=i by omega];exact hR,rfl,id,fun j x hx=>hx⟩,fun hl=> ?_⟩;rw[hγn _ _ _ hl];simp only[Lab.rn,ν];rw[if_neg him]
theorem Gy(c:Call)(f:FuncId)(ho:o.op=.call c)(hcal:c.callee=.value (.func f)){fn:Func}(hf:P.funcs[f]? =some fn)(hb:fn.body.isSome=true)(hn:(fn.name== "runtime.NumGoroutine")=false){l:List O}(hl:cOs c.args.toList=some l)
  (h:∃(M:List Nat) (fz:Bool) (ds:List AV) (res:AV) (σ1:Sto),M.Nodup∧rwL (at_ σ) M (l.map ev)=some ds∧rwIn σ M=true∧Does P f ds (rwS σ M) res σ1∧v7 σ σ1 M 0=true∧ol (σ1.drop M.length)=true∧scal res=true∧
    K .no (Lift.rn (rwN M fz σ.length) res) (gr σ1 fz M 0 σ++σ1.drop M.length)):SoundT P σ ev o K:=by
 obtain⟨M,fz,ds,res,σ1,hM,hargs,hin,hdoes,hout,hnew,hsc,hK⟩:=h;refine⟨_,_,_,hK,fun γ φ w ρ hS hr hρ=> ?_⟩;rw[tw ho hcal hf hb hn ρ (hρ.1 f) w];simp only[Exec];have har:=mg (ev:=ev) hl (fun X Y hX hm=>hr X Y hX (by simp only[ho,Op.operands,Call.operands,hcal];simp;exact .inr (by simpa using hm)));refine Calls.mono (hdoes (labW M γ) (fun i=>φ (M.getD i 0)) w _ (M4 hS hM hin) (Ec hS hargs har)) fun e w' hq=> ?_
 obtain⟨v,γ1,φ1,rfl,hK1,hst,hS1,hres⟩:=hq;exact⟨v,rfl,JU hS hM hin hout hnew hK1 hst hS1 hres hsc⟩
end
end Go.Lift
namespace Go.Lift
open Go.RowKit
section
variable {w : World} {γ γ' : Labels}
mutual
theorem Tree.to{k k':Nat}{p p':List Nat}(h:∀b q,γ b=.r k (p++q)→γ' b=.r k' (p'++q)):∀(q:List Nat) (x:D) (v:Value),Tree w γ k (p++q) x v→Tree w γ' k' (p'++q) x v
 |_,.int _,_,hr=>by simpa only[Tree]using hr
 |_,.bool _,_,hr=>by simpa only[Tree]using hr
 |_,.str _,_,hr=>by simpa only[Tree]using hr
 |_,.byte _,_,hr=>by simpa only[Tree]using hr
 |q,.sl n l,v,hr=>by
  simp only[Tree]at hr ⊢;obtain⟨A,c,e,hc,hr⟩:=hr;refine⟨A,c,e,hc, ?_⟩;rcases hr with hr|⟨b,cur,T,eA,hg,hh,hl⟩
  ·exact .inl hr
  ·exact .inr ⟨b,cur,T,eA,h b q hg,hh,TreeL.to h q l _ _ hl⟩
theorem TreeL.to{k k':Nat}{p p':List Nat}(h:∀b q,γ b=.r k (p++q)→γ' b=.r k' (p'++q)):∀(q:List Nat) (l:List D) (j:Nat) (vs:List Value),TreeL w γ k (p++q) j l vs→TreeL w γ' k' (p'++q) j l vs
 |_,[],_,_,_=>by simp only[TreeL]
 |q,x :: l,j,vs,hr=>by
  simp only[TreeL]at hr ⊢;obtain⟨v,vs',e,hx,hl⟩:=hr;rw[List.append_assoc]at hx ⊢;exact⟨v,vs',e,Tree.to h (q++[j]) x v hx,TreeL.to h q l _ _ hl⟩
end
end
section
variable {w : World} {γ γ' : Labels} {φ φ' : Nat → Nat} {s s' : St} {ρ : Nat → Option Nat}
structure To(w:World)(γ:Labels)(φ:Nat→Nat)(s:St)(γ':Labels)(φ':Nat→Nat)(s':St)(ρ:Nat→Option Nat):Prop where
 im:∀b,Im w γ b→Im w γ' b
 go:∀k k' R,ρ k=some k'→s k=some R→φ' k'=φ k∧(∃R',s' k'=some R'∧R'.e=R.e∧(R'.g=true→R.g=true)∧∀(j:Nat) (x:D),R.cells[j]? =some (.tr x)→R'.cells[j]? =some (.tr x))∧(γ (φ k)=.r k []→γ' (φ k)=.r k' [])
mutual
theorem Rel.to(h:To w γ φ s γ' φ' s' ρ):∀(av:AV) (v:Value),Rel w γ φ s av v→Rel w γ' φ' s' (Lift.rn ρ av) v
 | .any,_,_=>by simp only[Lift.rn,Rel]
 | .und,_,hr=>by simpa only[Lift.rn,Rel]using hr
 | .nil,_,hr=>by simpa only[Lift.rn,Rel]using hr
 | .d x,v,hr=>by
  simp only[Lift.rn,Rel]at hr ⊢;exact Rd.mono (fun b hb=>⟨h.im b hb,rfl⟩) x v hr
 | .own k off n,v,hr=>by
  simp only[Lift.rn];split
  ·rename_i k' hk
   simp only[Rel]at hr ⊢;obtain⟨R,hR,hr⟩:=hr;obtain⟨hφ,⟨R',hR',he,hg,_⟩,hlab⟩:=h.go k k' R hk hR;refine⟨R',hR', ?_⟩;rcases hr with hr|⟨c,cur,T,hv,hn,hl,hh,hc⟩
   ·exact .inl hr
   ·exact .inr ⟨c,cur,T,by rw[hφ];exact hv,hn,by rw[hφ];exact hlab hl,by rw[hφ];exact hh,fun h0=>by rw[he];exact hc (hg h0)⟩
  ·simp only[Rel]
 | .sub k j,v,hr=>by
  simp only[Lift.rn];split
  ·rename_i k' hk
   simp only[Rel]at hr ⊢;obtain⟨R,x,cur,T,f,hR,hx,hh,hv⟩:=hr;obtain⟨hφ,⟨R',hR',_,_,htr⟩,_⟩:=h.go k k' R hk hR;exact⟨R',x,cur,T,f,hR',htr j x hx,by rw[hφ];exact hh,hv⟩
  ·simp only[Rel]
 | .ptr k off,v,hr=>by
  simp only[Lift.rn];split
  ·rename_i k' hk
   simp only[Rel]at hr ⊢;obtain⟨R,hR,hv⟩:=hr;obtain⟨hφ,⟨R',hR',_⟩,_⟩:=h.go k k' R hk hR;exact⟨R',hR',by rw[hφ];exact hv⟩
  ·simp only[Rel]
 | .sptr k j off,v,hr=>by
  simp only[Lift.rn];split
  ·rename_i k' hk
   simp only[Rel]at hr ⊢;obtain⟨R,x,cur,T,f,b,n,c,hR,hx,hh,hv,e⟩:=hr;obtain⟨hφ,⟨R',hR',_,_,htr⟩,_⟩:=h.go k k' R hk hR;exact⟨R',x,cur,T,f,b,n,c,hR',htr j x hx,by rw[hφ];exact hh,hv,e⟩
  ·simp only[Rel]
 | .rptr l off,v,hr=>by
  simp only[Lift.rn,Rel]at hr ⊢;obtain⟨b,o,e,hb,hl⟩:=hr;exact⟨b,o,e,h.im b hb,RdL.mono (fun b hb=>⟨h.im b hb,rfl⟩) l b o hb hl⟩
 | .tr x,_,hr=>by simp only[Rel]at hr
 | .lv n,v,hr=>by simpa only[Lift.rn,Rel]using hr
 | .agg l,v,hr=>by
  simp only[Lift.rn,Rel]at hr ⊢;obtain⟨vs,e,hl⟩:=hr;exact⟨vs,e,RelL.to h l _ hl⟩
 | .tup l,v,hr=>by
  simp only[Lift.rn,Rel]at hr ⊢;obtain⟨vs,e,hl⟩:=hr;exact⟨vs,e,RelL.to h l _ hl⟩
 | .clo f l,v,hr=>by
  simp only[Lift.rn,Rel]at hr ⊢;obtain⟨vs,e,hl⟩:=hr;exact⟨vs,e,RelL.to h l _ hl⟩
theorem RelL.to(h:To w γ φ s γ' φ' s' ρ):∀(l:List AV) (vs:List Value),RelL w γ φ s l vs→RelL w γ' φ' s' (rnL ρ l) vs
 | [],_,hr=>by simpa only[rnL,RelL]using hr
 |x :: l,vs,hr=>by
  simp only[rnL,RelL]at hr ⊢;obtain⟨v,vs',e,hx,hl⟩:=hr;exact⟨v,vs',e,Rel.to h x v hx,RelL.to h l vs' hl⟩
end
theorem CRel.to(h:To w γ φ s γ' φ' s' ρ){k k' j:Nat}(hl:∀b q,γ b=.r k q→γ' b=.r k' q){av:AV}{v:Value}(hr:CRel w γ φ s k j av v):CRel w γ' φ' s' k' j (Lift.rn ρ av) v:=by
 cases av with
 |tr x=>
  simp only[CRel,Lift.rn]at hr ⊢;have:=Tree.to (p:=[j]) (p':=[j]) (fun b q hb=>hl b _ hb) [] x v (by simpa using hr);simpa using this
 |_=>
  have hh:=Rel.to h _ v (show Rel w γ φ s _ v from hr);exact CRel.of_rel hh
theorem Sim.low(h:Sim γ φ s w)(h1:∀k R',s' k=some R'→∃R,s k=some R∧R'.cells=R.cells)(h2:∀k R,s k=some R→∃R',s' k=some R'∧R'.e=R.e∧(R'.g=true→R.g=true)∧R'.cells=R.cells):
  Sim γ φ s' w∧Live w γ φ s w γ φ s':=by
 have hL:Live w γ φ s w γ φ s':=by
  intro k R hR;obtain⟨R',hR',he,hg,hc⟩:=h2 k R hR;refine⟨rfl,R',hR',he,hg,id,fun j x hx=>⟨⟨x,by rw[hc];exact hx⟩,fun c c' T f T' f' e e'=> ?_⟩⟩;rw[e]at e';simp at e';rw[e'.1]
 refine⟨⟨h.bound,fun k R' hR'=> ?_,h.adm⟩,hL⟩;obtain⟨R,hR,hc⟩:=h1 k R' hR';rw[hc];rcases h.root k R hR with h0|⟨cur,T,hh,hg,hl,hcells⟩
 ·exact .inl h0
 ·refine .inr ⟨cur,T,hh,hg,hl,fun j av hav=> ?_⟩
  obtain⟨v,hv,hr⟩:=hcells j av hav;exact⟨v,hv,CRel.mono (Kst.refl _ _) hL (fun _ _ h=>h) (fun _ _ _ _=>rfl) hr⟩
end
section
variable {P : Program} {σ σ1 : Sto} {w w1 : World} {γ : Labels} {φ : Nat → Nat} {M : List Nat} {gv : List Nat}
theorem tG{k:Nat}{R:Root}(h:at_ σ k=some R):k<σ.length:=by
 by_cases hk:k<σ.length
 ·exact hk
 ·simp [at_,List.getElem?_eq_none (Nat.le_of_not_lt hk)]at h
theorem Bi(i:Nat):at_ (cgIn σ M gv) i=(M[i]?).bind fun k=>(at_ σ k).map fun R=>{ e:=R.e,g:=R.g&&(gv.contains k),cells:=rnL (fun i=>aP i M) R.cells }:=by
 simp only[at_,cgIn,List.getElem?_map];cases M[i]? <;>rfl
theorem CY:∀{M:List Nat} {i:Nat},cgOk σ σ1 gv M i=true→∀(d k:Nat),M[d]? =some k→∃R R1,at_ σ k=some R∧at_ σ1 (i+d)=some R1∧(gv.contains k=true∨R1.e=R.e)
 | [],_,_,d,k,h=>by simp at h
 |k0 :: M,i,hw,d,k,h=>by
  simp only[cgOk,Bool.and_eq_true]at hw;cases d with
  |zero=>
   simp at h;subst h;have h1:=hw.1;split at h1
   ·rename_i R R1 hR hR1
    simp only[Bool.or_eq_true,beq_iff_eq]at h1;exact⟨R,R1,hR,hR1,h1⟩
   ·cases h1
  |succ d=>
   obtain⟨R,R1,h1,h2,h3⟩:=CY hw.2 d k (by simpa using h);exact⟨R,R1,h1,by rw[show i+(d+1)=i+1+d by omega];exact h2,h3⟩
theorem xV(fz:Bool)(k0:Nat):∀(l:Sto) (n j:Nat),(cgGo σ1 M gv fz k0 n l)[j]? =(l[j]?).map (Option.map (ep σ1 M gv fz k0 (n+j)))
 | [],_,_=>by simp [cgGo]
 |none :: l,n,0=>by simp [cgGo]
 |some R :: l,n,0=>by simp [cgGo]
 |none :: l,n,j+1=>by simp only[cgGo,List.getElem?_cons_succ];rw[xV fz k0 l (n+1) j,show n+1+j=n+(j+1)by omega]
 |some R :: l,n,j+1=>by simp only[cgGo,List.getElem?_cons_succ];rw[xV fz k0 l (n+1) j,show n+1+j=n+(j+1)by omega]
theorem p7(fz:Bool)(k0:Nat):∀(l:Sto) (n:Nat),(cgGo σ1 M gv fz k0 n l).length=l.length
 | [],_=>rfl
 |none :: l,n=>by simp [cgGo,p7 fz k0 l]
 |some R :: l,n=>by simp [cgGo,p7 fz k0 l]
theorem NK(fz:Bool)(k0 k:Nat):at_ (cgGo σ1 M gv fz k0 0 σ++qH σ1 M gv fz k0) k=
  if k<σ.length then (at_ σ k).map (ep σ1 M gv fz k0 k) else (at_ σ1 (M.length+(k-σ.length))).map fun R=>{ R with cells:=rnL (cgNu M gv fz k0) R.cells }:=by
 simp only[at_];split
 ·rename_i h
  rw[List.getElem?_append_left (by rw[p7];exact h),xV,Nat.zero_add];cases σ[k]? with
  |none=>rfl
  |some x=>cases x<;>rfl
 ·rename_i h
  rw[List.getElem?_append_right (by rw[p7];omega),p7,qH,List.getElem?_map,List.getElem?_drop];cases σ1[M.length+(k-σ.length)]? with
  |none=>rfl
  |some x=>cases x<;>rfl
theorem Lm(hS:Sim γ φ (at_ σ) w)(hM:M.Nodup){l:List AV}{vs:List Value}(hr:RelL w γ φ (at_ σ) l vs):
  Sim (fun b=>(γ b).rn fun i=>aP i M) (fun i=>φ (M.getD i 0)) (at_ (cgIn σ M gv)) w∧RelL w (fun b=>(γ b).rn fun i=>aP i M) (fun i=>φ (M.getD i 0)) (at_ (cgIn σ M gv)) (rnL (fun i=>aP i M) l) vs:=by
 let s1:St:=fun i=>(M[i]?).bind fun k=>(at_ σ k).map fun R=>{ R with cells:=rnL (fun i=>aP i M) R.cells }
 have hN:Ren (fun i=>aP i M) φ (at_ σ) (fun i=>φ (M.getD i 0)) s1:=by
  refine⟨fun k i R hk hR=> ?_,fun i R' hR'=> ?_,fun k1 k2 i h1 h2=> ?_⟩
  ·have hg:=az hk
   exact⟨by simp [hg],by simp [s1,hg,hR]⟩
  ·simp only[s1,Option.bind_eq_some_iff,zm]at hR'
   obtain⟨k,hk,R,hR,_⟩:=hR';exact⟨k,R,cz hM hk,hR⟩
  ·have e1:=az h1
   have e2:=az h2;rw[e1]at e2;simpa using e2
 obtain⟨_,hS1⟩:=hS.rn hN;have hr1:=RelL.rn hN l vs hr;obtain⟨hS2,hL2⟩:=hS1.low (s':=at_ (cgIn σ M gv)) (fun i R' hR'=>by
   rw[Bi]at hR';simp only[Option.bind_eq_some_iff,zm]at hR';obtain⟨k,hk,R,hR,rfl⟩:=hR';exact⟨{ R with cells:=rnL (fun i=>aP i M) R.cells },by simp [s1,hk,hR],rfl⟩) (fun i R' hR'=>by
   simp only[s1,Option.bind_eq_some_iff,zm]at hR';obtain⟨k,hk,R,hR,rfl⟩:=hR';exact⟨{ e:=R.e,g:=R.g&&(gv.contains k),cells:=rnL (fun i=>aP i M) R.cells },by rw[Bi];simp [hk,hR],rfl,fun h=>by simp at h;exact h.1,rfl⟩)
 exact⟨hS2,RelL.mono (Kst.refl _ _) hL2 _ _ hr1⟩
theorem EK{fz:Bool}{γ1:Labels}{φ1:Nat→Nat}{res:AV}{v:Value}(hS:Sim γ φ (at_ σ) w)(hM:M.Nodup)(hok:cgOk σ σ1 gv M 0=true)
  (hK:Kst (fun b=>(γ b).rn fun i=>aP i M) w γ1 w1)
  (hst:∀i R,at_ (cgIn σ M gv) i=some R→R.g=false→φ1 i=φ (M.getD i 0)∧((γ (φ (M.getD i 0))).rn (fun i=>aP i M)=.r i []→γ1 (φ (M.getD i 0))=.r i []))
  (hS1:Sim γ1 φ1 (at_ σ1) w1) (hres:Rel w1 γ1 φ1 (at_ σ1) res v):
  ∃γ' φ',TPost γ φ σ w (.call gv M) (Lift.rn (cgNu M gv fz σ.length) res) (cgGo σ1 M gv fz σ.length 0 σ++qH σ1 M gv fz σ.length) v w1 γ' φ':=by
 let νL:Nat→Option Nat:=fun i=>some (if i<M.length then M.getD i 0 else σ.length+(i-M.length))
 let ownB:Nat→Bool:=fun b=>match γ b with
  | .r k _=>(aP k M).isSome
  |_=>false
 let γ':Labels:=fun b=>if b<w.heap.size∧ownB b=false then γ b else (γ1 b).rn νL
 let φ':Nat→Nat:=fun k=>match aP k M with
  |some i=>φ1 i
  |none=>if k<σ.length then φ k else φ1 (k-σ.length+M.length)
 let s':St:=at_ (cgGo σ1 M gv fz σ.length 0 σ++qH σ1 M gv fz σ.length)
 have hs':∀k,s' k=if k<σ.length then (at_ σ k).map (ep σ1 M gv fz σ.length k) else (at_ σ1 (M.length+(k-σ.length))).map fun R=>{ R with cells:=rnL (cgNu M gv fz σ.length) R.cells }:=NK fz σ.length
 have hget:=CY hok;have hMlt:∀i k,M[i]? =some k→k<σ.length:=fun i k hi=>by obtain⟨R,_,h,_⟩:=hget i k hi;exact tG h
 have hMge:∀k,¬ k<σ.length→aP k M=none:=fun k hk=>by
  cases hp:aP k M with
  |none=>rfl
  |some i=>exact absurd (hMlt i k (az hp)) hk
 have hlabr:∀b,ownB b=false→∀i p,(γ b).rn (fun i=>aP i M)≠ .r i p:=by
  intro b hb i p e;simp only[ownB]at hb;cases hg:γ b with
  |r k q=>
   rw[hg]at hb e;simp only[Lab.rn]at e;cases hp:aP k M with
   |none=>rw[hp]at e;cases e
   |some j=>simp only[hp]at hb;simp at hb
  |_=>rw[hg]at e;simp [Lab.rn]at e
 have hF1:∀b,b<w.heap.size→ownB b=false→w1.heap[b]? =w.heap[b]? ∧γ1 b=(γ b).rn (fun i=>aP i M):=fun b hb ho=>hK.blk b hb (hlabr b ho)
 have hγo:∀b,b<w.heap.size→ownB b=false→γ' b=γ b:=fun b h1 h2=>by simp only[γ',if_pos (And.intro h1 h2)]
 have hγn:∀b i p,γ1 b=.r i p→γ' b=(γ1 b).rn νL:=fun b i p hb=>by
  simp only[γ'];rw[if_neg]
  rintro⟨h1,h2⟩
  have:=(hF1 b h1 h2).2;rw[hb]at this;exact hlabr b h2 i p this.symm
 have hγi:∀b,Im w1 γ1 b→Im w1 γ' b:=by
  rintro b ⟨h1,h2⟩;refine⟨h1, ?_⟩;simp only[γ'];split
  ·rename_i hc
   have:=(hF1 b hc.1 hc.2).2;rw[h2]at this;cases hg:γ b with
   |r k p=>
    rw[hg]at this;simp only[Lab.rn]at this;split at this<;>cases this
   |im=>rfl
   |off=>rw[hg]at this;cases this
  ·rw[h2];rfl
 have hoN:∀b k p,γ b=.r k p→aP k M=none→ownB b=false:=fun b k p h1 h2=>by simp only[ownB,h1];simp [h2]
 have hoS:∀b k p i,γ b=.r k p→aP k M=some i→ownB b=true:=fun b k p i h1 h2=>by simp only[ownB,h1];simp [h2]
 have hνM:∀i k,M[i]? =some k→νL i=some k:=fun i k hi=>by
  have hi':i<M.length:=(List.getElem?_eq_some_iff.1 hi).1;simp only[νL];rw[if_pos hi',zq,hi]
  rfl
 have hνN:∀i,¬ i<M.length→νL i=some (σ.length+(i-M.length)):=fun i hi=>by simp only[νL,if_neg hi]
 have hφM:∀i k,M[i]? =some k→φ' k=φ1 i:=fun i k hi=>by simp only[φ',cz hM hi]
 have hφo:∀k,k<σ.length→aP k M=none→φ' k=φ k:=fun k h1 h2=>by simp only[φ',h2,if_pos h1]
 have hφn:∀i,¬ i<M.length→φ' (σ.length+(i-M.length))=φ1 i:=fun i hi=>by
  have h1:¬ σ.length+(i-M.length)<σ.length:=by omega
  simp only[φ',hMge _ h1,if_neg h1]
  congr 1
  omega
 have hMst:∀i k R,M[i]? =some k→at_ σ k=some R→(gv.contains k=true→R.g=false)→φ1 i=φ k∧(γ (φ k)=.r k []→γ1 (φ k)=.r i []):=by
  intro i k R hi hR hg;have hd:M.getD i 0=k:=by rw[zq,hi];rfl
  have h1:=hst i { e:=R.e,g:=R.g&&(gv.contains k),cells:=rnL (fun i=>aP i M) R.cells } (by rw[Bi,hi];simp [hR]) (by
   cases hgg:R.g with
   |false=>rfl
   |true=>
    have:gv.contains k=false:=by
     cases hc:gv.contains k with
     |false=>rfl
     |true=>rw[hg hc]at hgg;cases hgg
    simp only[this,Bool.and_false])
  rw[hd]at h1;exact⟨h1.1,fun hl=>h1.2 (by rw[hl];simp [Lab.rn,cz hM hi])⟩
 have hstay:∀k R,at_ σ k=some R→(gv.contains k=true→R.g=false)→φ' k=φ k∧(γ (φ k)=.r k []→γ' (φ k)=.r k []):=by
  intro k R hR hg;cases hp:aP k M with
  |none=>exact⟨hφo k (tG hR) hp,fun hl=>by rw[hγo _ (hS.bound _ _ _ hl) (hoN _ _ _ hl hp)];exact hl⟩
  |some i=>
   have hi:=az hp;obtain⟨h1,h2⟩:=hMst i k R hi hR hg;refine⟨(hφM i k hi).trans h1,fun hl=> ?_⟩;have h3:=h2 hl;rw[hγn _ _ _ h3,h3];simp [Lab.rn,hνM i k hi]
 have hroot:∀k R,at_ σ k=some R→∃R',s' k=some R'∧(¬ gv.contains k=true→R'.e=R.e)∧(R'.g=true→R.g=true)∧(aP k M=none→R'={ R with cells:=cgL gv M R.cells }):=by
  intro k R hR;refine⟨ep σ1 M gv fz σ.length k R,by rw[hs',if_pos (tG hR),hR];rfl,fun hg=> ?_,fun hg=> ?_,fun hp=>by simp only[ep,hp]⟩
  ·cases hp:aP k M with
   |none=>simp only[ep,hp]
   |some i=>
    obtain⟨R0,R1,h1,h2,h3⟩:=hget i k (az hp);rw[Nat.zero_add]at h2;rw[hR]at h1;obtain rfl:R=R0:=by simpa using h1
    simp only[ep,hp,h2];exact h3.resolve_left hg
  ·cases hp:aP k M with
   |none=>simp only[ep,hp]at hg;exact hg
   |some i=>
    obtain⟨R0,R1,h1,h2,h3⟩:=hget i k (az hp);rw[Nat.zero_add]at h2;simp only[ep,hp,h2,Bool.and_eq_true]at hg;exact hg.1
 have hKst:Kst γ w γ' w1:=by
  refine⟨hK.os,hK.tape,hK.output,hK.size,fun b hb hn=> ?_,hK.shape⟩;have ho:ownB b=false:=by
   cases hg:γ b with
   |r k p=>exact absurd hg (hn k p)
   |_=>simp only[ownB,hg]
  exact⟨(hF1 b hb ho).1,hγo b hb ho⟩
 have hTo:To w1 γ1 φ1 (at_ σ1) γ' φ' s' (cgNu M gv fz σ.length):=by
  refine⟨hγi,fun i k' R hi hR=> ?_⟩;unfold cgNu at hi;split at hi
  ·rename_i k hk
   split at hi
   ·rename_i hc
    simp only[zj]at hi;subst hi;obtain⟨R0,R1,h1,h2,h3⟩:=hget i k hk;rw[Nat.zero_add,hR]at h2;obtain rfl:R=R1:=by simpa using h2
    refine⟨hφM i k hk,⟨_,by rw[hs',if_pos (tG h1),h1];rfl, ?_,fun hg=> ?_,fun j x hx=> ?_⟩,fun hl=> ?_⟩
    ·simp only[ep,cz hM hk,hR]
    ·simp only[ep,cz hM hk,hR,Bool.and_eq_true]at hg
     have hg2:=hg.2;split at hg2
     ·exact hg2
     ·rename_i hgv
      rw[hc.resolve_right hgv]at hg2;cases hg2
    ·simp only[ep,cz hM hk,hR]
     rw[aR,List.getElem?_map,hx]
     rfl
    ·rw[hγn _ _ _ hl,hl]
     simp [Lab.rn,hνM i k hk]
   ·cases hi
  ·rename_i hk
   simp only[zj]at hi;subst hi;have hi':¬ i<M.length:=fun h=>by rw[zg h]at hk;cases hk
   have hnl:¬ σ.length+(i-M.length)<σ.length:=by omega
   refine⟨hφn i hi',⟨{ R with cells:=rnL (cgNu M gv fz σ.length) R.cells },by rw[hs',if_neg hnl,show M.length+(σ.length+(i-M.length)-σ.length)=i by omega,hR];rfl,rfl,id,fun j x hx=> ?_⟩,fun hl=> ?_⟩
   ·rw[aR,List.getElem?_map,hx]
    rfl
   ·rw[hγn _ _ _ hl,hl]
    simp [Lab.rn,hνN i hi']
 have hfar:∀b k q,γ b=.r k q→aP k M=none→γ' b=.r k q∧w1.heap[b]? =w.heap[b]? :=fun b k q hb hp=>
  ⟨by rw[hγo b (hS.bound _ _ _ hb) (hoN _ _ _ hb hp)];exact hb,(hF1 b (hS.bound _ _ _ hb) (hoN _ _ _ hb hp)).1⟩
 have hsubr:∀k R (j:Nat) (x:D),at_ σ k=some R→R.cells[j]? =some (.tr x)→aP k M=none→s' k=some { R with cells:=cgL gv M R.cells }∧(cgL gv M R.cells)[j]? =some (.tr x)∧φ' k=φ k∧w1.heap[φ k]? =w.heap[φ k]? :=by
  intro k R j x hR hx hp;obtain⟨R',h1,_,_,h4⟩:=hroot k R hR;rw[h4 hp]at h1;refine⟨h1,by rw[p6,List.getElem?_map,hx];rfl,hφo k (tG hR) hp, ?_⟩;rcases hS.root k R hR with h0|⟨cur,T,hh,hg,_⟩
  ·simp [h0]at hx
  ·exact(hfar _ _ _ hg hp).2
 have hpers:∀(av:AV),∀(u:Value),Rel w γ φ (at_ σ) av u→Rel w1 γ' φ' s' (cgA gv M av) u:=by
  intro av;refine AV.rec (motive_1:=fun av=>∀(u:Value),Rel w γ φ (at_ σ) av u→Rel w1 γ' φ' s' (cgA gv M av) u)
   (motive_2:=fun l=>∀(vs:List Value),RelL w γ φ (at_ σ) l vs→RelL w1 γ' φ' s' (cgL gv M l) vs) ?_ ?_ ?_ ?_ ?_ ?_ ?_ ?_ ?_ ?_ ?_ ?_ ?_ ?_ ?_ ?_ av
  ·intro v _;simp only[cgA,Rel]
  ·intro v h;simpa only[cgA,Rel]using h
  ·intro v h;simpa only[cgA,Rel]using h
  ·intro x v h
   simp only[cgA,Rel]at h ⊢;exact Rd.mono (fun b hb=>hKst.im hb) x v h
  ·intro k off n v h
   simp only[cgA];split
   ·simp only[Rel]
   ·rename_i hg
    simp only[Rel]at h ⊢;obtain⟨R,hR,h⟩:=h;obtain⟨R',h1,h2,h3,_⟩:=hroot k R hR;obtain⟨h5,h6⟩:=hstay k R hR (fun e=>absurd e hg);refine⟨R',h1, ?_⟩;rcases h with h|⟨c,cur,T,hv,hn,hl,hh,hc⟩
    ·exact .inl h
    ·obtain⟨cur',hh',hsz⟩:=hKst.shape _ _ _ _ hh
     exact .inr ⟨c,cur',T,by rw[h5];exact hv,hn,by rw[h5];exact h6 hl,by rw[h5];exact hh',fun h0=>by rw[h2 hg,hsz];exact hc (h3 h0)⟩
  ·intro k j v h
   simp only[cgA];split
   ·rename_i hp
    simp only[Rel]at h ⊢;obtain⟨R,x,cur,T,f,hR,hx,hh,hv⟩:=h;obtain⟨h1,h2,h3,h4⟩:=hsubr k R j x hR hx hp;exact⟨_,x,cur,T,f,h1,h2,by rw[h3,h4];exact hh,hv⟩
   ·simp only[Rel]
  ·intro k off v h
   simp only[cgA];split
   ·simp only[Rel]
   ·rename_i hg
    simp only[Rel]at h ⊢;obtain⟨R,hR,hv⟩:=h;obtain⟨R',h1,_⟩:=hroot k R hR;obtain⟨h5,_⟩:=hstay k R hR (fun e=>absurd e hg);exact⟨R',h1,by rw[h5];exact hv⟩
  ·intro k j off v h
   simp only[cgA];split
   ·rename_i hp
    simp only[Rel]at h ⊢;obtain⟨R,x,cur,T,f,b,n,c,hR,hx,hh,hv,e⟩:=h;obtain⟨h1,h2,h3,h4⟩:=hsubr k R j x hR hx hp;exact⟨_,x,cur,T,f,b,n,c,h1,h2,by rw[h3,h4];exact hh,hv,e⟩
   ·simp only[Rel]
  ·intro l off v h
   simp only[cgA,Rel]at h ⊢;obtain⟨b,o,e,hb,hl⟩:=h;exact⟨b,o,e,(hKst.im hb).1,RdL.mono (fun b hb=>hKst.im hb) l b o hb hl⟩
  ·intro x v h;simp only[Rel]at h
  ·intro n v h;simpa only[cgA,Rel]using h
  ·intro l ih v h
   simp only[cgA,Rel]at h ⊢;obtain⟨vs,e,hl⟩:=h;exact⟨vs,e,ih vs.toList hl⟩
  ·intro l ih v h
   simp only[cgA,Rel]at h ⊢;obtain⟨vs,e,hl⟩:=h;exact⟨vs,e,ih vs.toList hl⟩
  ·intro f l ih v h
   simp only[cgA,Rel]at h ⊢;obtain⟨vs,e,hl⟩:=h;exact⟨vs,e,ih vs.toList hl⟩
  ·intro vs h;simpa only[cgL,RelL]using h
  ·intro x l ihx ihl vs h
   simp only[cgL,RelL]at h ⊢;obtain⟨v,vs',e,hx,hl⟩:=h;exact⟨v,vs',e,ihx v hx,ihl vs' hl⟩
 refine⟨γ',φ',hKst,fun k R hR hg=> ?_,⟨fun b k p hb=> ?_,fun k R' hR'=> ?_,hS.adm.mono hKst⟩,fun av u hu=>hpers av u hu,Rel.to hTo res v hres⟩
 ·obtain⟨R',h1,_,h3,_⟩:=hroot k R hR
  exact⟨hstay k R hR (fun _=>hg),R',h1,goff h3 hg⟩
 ·simp only[γ']at hb
  split at hb
  ·exact Nat.lt_of_lt_of_le (hS.bound b k p hb) hK.size
  ·cases hg:γ1 b with
   |r i q=>exact hS1.bound b i q hg
   |_=>simp [hg,Lab.rn]at hb
 ·change s' k=some R' at hR'
  rw[hs']at hR';split at hR'
  ·rename_i hk
   simp only[zm]at hR';obtain⟨R,hR,rfl⟩:=hR';cases hp:aP k M with
   |none=>
    simp only[ep,hp];rcases hS.root k R hR with h0|⟨cur,T,hh,hg,hl,hcells⟩
    ·exact .inl (by simp [h0,cgL])
    refine .inr ⟨cur,T, ?_, ?_,by simpa [p6]using hl,fun j av hav=> ?_⟩
    ·rw[hφo k hk hp,(hfar _ _ _ hg hp).2];exact hh
    ·rw[hφo k hk hp];exact(hfar _ _ _ hg hp).1
    ·rw[p6,List.getElem?_map,zm]at hav
     obtain⟨av0,h0,rfl⟩:=hav;obtain⟨u,hu,hr⟩:=hcells j av0 h0;refine⟨u,hu, ?_⟩;cases av0 with
     |tr x=>
      simp only[CRel,cgA]at hr ⊢;exact Tree.mono (by simp) (fun b q _ hb=>hfar b k q hb hp) x u hr
     |_=>exact CRel.of_rel (hpers _ u (show Rel w γ φ (at_ σ) _ u from hr))
   |some i=>
    have hi:=az hp;obtain⟨R0,R1,h1,h2,h3⟩:=hget i k hi;rw[Nat.zero_add]at h2;simp only[ep,hp,h2];rcases hS1.root i R1 h2 with h0|⟨cur,T,hh,hg,hl,hcells⟩
    ·exact .inl (by simp [h0,rnL])
    refine .inr ⟨cur,T,by rw[hφM i k hi];exact hh, ?_,by simpa [aR]using hl,fun j av hav=> ?_⟩
    ·rw[hφM i k hi,hγn _ _ _ hg,hg];simp [Lab.rn,hνM i k hi]
    ·rw[aR,List.getElem?_map,zm]at hav
     obtain⟨av0,h0,rfl⟩:=hav;obtain⟨u,hu,hr⟩:=hcells j av0 h0;exact⟨u,hu,CRel.to hTo (fun b q hb=>by rw[hγn _ _ _ hb,hb];simp [Lab.rn,hνM i k hi]) hr⟩
  ·rename_i hk
   simp only[zm]at hR';obtain⟨R1,hR1,rfl⟩:=hR';have hi:¬ M.length+(k-σ.length)<M.length:=by omega
   have hkk:σ.length+(M.length+(k-σ.length)-M.length)=k:=by omega
   have e1:=hφn _ hi;have e2:=hνN _ hi;rw[hkk]at e1 e2;rcases hS1.root _ R1 hR1 with h0|⟨cur,T,hh,hg,hl,hcells⟩
   ·exact .inl (by simp [h0,rnL])
   refine .inr ⟨cur,T,by rw[e1];exact hh, ?_,by simpa [aR]using hl,fun j av hav=> ?_⟩
   ·rw[e1,hγn _ _ _ hg,hg];simp [Lab.rn,e2]
   ·rw[aR,List.getElem?_map,zm]at hav
    obtain⟨av0,h0,rfl⟩:=hav;obtain⟨u,hu,hr⟩:=hcells j av0 h0;exact⟨u,hu,CRel.to hTo (fun b q hb=>by rw[hγn _ _ _ hb,hb];simp [Lab.rn,e2]) hr⟩
end
section
variable {P : Program} {σ : Sto} {ev : O → AV} {K : Fg → AV → Sto → Prop} {o : Oper}
theorem Gz(c:Call)(f:FuncId)(ho:o.op=.call c)(hcal:c.callee=.value (.func f)){fn:Func}(hf:P.funcs[f]? =some fn)(hb:fn.body.isSome=true)(hn:(fn.name== "runtime.NumGoroutine")=false){l:List O}(hl:cOs c.args.toList=some l)
  (h:∃(M:List Nat) (gv:List Nat) (fz:Bool) (ds:List AV) (res:AV) (σ1:Sto),M.Nodup∧rnL (fun i=>aP i M) (l.map ev)=ds∧Does P f ds (cgIn σ M gv) res σ1∧cgOk σ σ1 gv M 0=true∧
    K (.call gv M) (rn (cgNu M gv fz σ.length) res) (cgGo σ1 M gv fz σ.length 0 σ++qH σ1 M gv fz σ.length)):SoundT P σ ev o K:=by
 obtain⟨M,gv,fz,ds,res,σ1,hM,rfl,hdoes,hok,hK⟩:=h;refine⟨_,_,_,hK,fun γ φ w ρ hS hr hρ=> ?_⟩;rw[tw ho hcal hf hb hn ρ (hρ.1 f) w];simp only[Exec];have har:=mg (ev:=ev) hl (fun X Y hX hm=>hr X Y hX (by simp only[ho,Op.operands,Call.operands,hcal];simp;exact .inr (by simpa using hm)));obtain⟨h1,h2⟩:=Lm (gv:=gv) hS hM har;refine Calls.mono (hdoes _ _ w _ h1 h2) fun e w' hq=> ?_
 obtain⟨v,γ1,φ1,rfl,hK1,hst,hS1,hres⟩:=hq;exact⟨v,rfl,EK hS hM hok hK1 hst hS1 hres⟩
theorem Jy(c:Call)(t:Nat)(ho:o.op=.call c)(hcal:c.callee=.value (.tmp t)){l:List O}(hl:cOs c.args.toList=some l)
  (h:∃(f:Nat) (caps:List AV) (M:List Nat) (gv:List Nat) (fz:Bool) (ds:List AV) (res:AV) (σ1:Sto),ev (.t t)=.clo f caps∧tz P f=true∧M.Nodup∧rnL (fun i=>aP i M) (l.map ev++caps)=ds∧Does P f ds (cgIn σ M gv) res σ1∧cgOk σ σ1 gv M 0=true∧
    K (.call gv M) (rn (cgNu M gv fz σ.length) res) (cgGo σ1 M gv fz σ.length 0 σ++qH σ1 M gv fz σ.length)):SoundT P σ ev o K:=by
 obtain⟨f,caps,M,gv,fz,ds,res,σ1,hev,hok0,hM,rfl,hdoes,hok,hK⟩:=h;refine⟨_,_,_,hK,fun γ φ w ρ hS hr hρ=> ?_⟩;have hx:=hr (.tmp t) (.t t) rfl (by simp [ho,Op.operands,Call.operands,hcal]);rw[hev]at hx;simp only[Rel]at hx;obtain⟨vs,hvs,hcap⟩:=hx;rw[Ad ho hcal hok0 hvs w];simp only[Exec];have har0:=mg (ev:=ev) hl (fun X Y hX hm=>hr X Y hX (by simp only[ho,Op.operands,Call.operands,hcal];simp;exact .inr (by simpa using hm)));have har:RelL w γ φ (at_ σ) (l.map ev++caps) (c.args.map ρ++vs).toList:=by rw[Array.toList_append];exact har0.append hcap
 obtain⟨h1,h2⟩:=Lm (gv:=gv) hS hM har;refine Calls.mono (hdoes _ _ w _ h1 h2) fun e w' hq=> ?_
 obtain⟨v,γ1,φ1,rfl,hK1,hst,hS1,hres⟩:=hq;exact⟨v,rfl,EK hS hM hok hK1 hst hS1 hres⟩
end
end Go.Lift
namespace Go.Lift
open Go.RowKit
section
variable {P : Program} {σ : Sto} {ev : O → AV} {K : Fg → AV → Sto → Prop} {o : Oper}
theorem J2:∀{vs:List Value} {l:List AV},cVs vs=some l→l.all okC=true
 | [],l,h=>by
  simp only[cVs,zj]at h;subst h
  rfl
 |v :: vs,l,h=>by
  simp only[cVs]at h;split at h
  ·rename_i x m hx hm
   simp only[zj]at h;subst h;simp only[List.all_cons,Bool.and_eq_true];refine⟨?_,J2 hm⟩;unfold cV1 at hx;split at hx<;>first|cases hx;done|(simp only[zj]at hx;subst hx;rfl)
  ·cases h
theorem BC(σ:Sto){k:Nat}{R R':Root}(hR:at_ σ k=some R)(h:R'=R):σ.set k (some R')=σ:=by
 subst h;apply List.ext_getElem?;intro j;rw[List.getElem?_set];split
 ·rename_i hj
  subst hj;simp only[at_]at hR;by_cases hk:k<σ.length
  ·rw[if_pos hk]
   rw[zg hk]at hR ⊢;simp at hR;rw[hR]
  ·rw[if_neg hk,List.getElem?_eq_none (by omega)]
 ·rfl
theorem Jz(c:Call)(x:Operand)(t:TypeId)(ho:o.op=.call c)(hcal:c.callee=.builtin .clear)(hargs:c.args.toList=[x])(hat:c.argTypes.toList=[t]){e:TypeId}{n:Nat}{z:List AV}{x':O}(hx:cO x=some x')
  (hu:P.underlying t=some (.slice e)) (hn:szOf P e=some n) (hz:zOf P e=some z) (h:tI P σ ev (.clear n z x') K):SoundT P σ ev o K:=by
 simp only[tI]at h;split at h
 ·rename_i k off m hev
  split at h
  ·rename_i R hR
   obtain⟨hzl,hfit,htr,h⟩:=h;refine⟨_,_,_,h,fun γ φ w ρ hS hr _=> ?_⟩;have hp:=hr x x' hx (by simp [ho,Op.operands,Call.operands,hcal,hargs]);rw[hev]at hp;have ha:c.args= #[x]:=by rw[← Array.toArray_toList (xs:=c.args),hargs]
   have ht:c.argTypes= #[t]:=by rw[← Array.toArray_toList (xs:=c.argTypes),hat]
   obtain⟨i,zv,hi,hzv,hcs,hlen,hsize⟩:=j9 hz;have hok:=J2 hcs;simp only[Rel]at hp;obtain⟨R',hR',hp⟩:=hp;rw[hR]at hR';obtain rfl:R=R':=by simpa using hR'
   have hres:∀{γ φ s},Rel w γ φ s (.tup []) (.tuple #[]):=by simp [Rel,RelL]
   by_cases h0:m=0
   ·subst h0
    rw[BC σ hR (by simp [cl])];have hrun:(execOp ρ o).run P w=.ok (.value (.tuple #[])) w:=by
     rcases hp with ⟨hp,_⟩|⟨c2,cur,T,hp,_⟩<;>simp [execOp,ho,resolve,hcal,ha,ht,invoke,builtin,Builtin.clear_,run_underlying hu,hp]
    rw[hrun];simp only[Exec];refine⟨γ,φ,Kst.refl _ _,fun i Ri hi hg=>⟨Stay.refl,Ri,hi,hg⟩,hS,fun av u hu=> ?_,hres⟩
    show Rel _ _ _ _ av u
    exact hu
   ·rcases hp with ⟨_,h1,_⟩|⟨c2,cur2,T2,hp,hmc,hlab,hheap,_⟩
    ·exact absurd h1 h0
    by_cases hn0:n=0
    ·-- elements of no size
     subst hn0;have hz0:z=[]:=List.eq_nil_of_length_eq_zero hzl;have hzs:cl m z=[]:=by simp [cl,hz0]
     rw[BC σ hR (by simp [hzs])];have hrun:(execOp ρ o).run P w=.ok (.value (.tuple #[])) w:=by
      have hzc:(Builtin.zeroCells zv.cells m).toList=[]:=by
       have:zv.cells.size=0:=by rw[hsize];omega
       simp [Builtin.zeroCells,this]
      simp [execOp,ho,resolve,hcal,ha,ht,invoke,builtin,Builtin.clear_,run_underlying hu,hp,h0,zeroValue,typeInfo,hi,hzv];have hzc':Builtin.zeroCells zv.cells m= #[]:=by simpa using hzc
      simp [hzc',storeCells]
     rw[hrun];simp only[Exec];refine⟨γ,φ,Kst.refl _ _,fun i Ri hi hg=>⟨Stay.refl,Ri,hi,hg⟩,hS,fun av u hu=> ?_,hres⟩
     show Rel _ _ _ _ av u
     exact hu
    have hcells:RelL w γ φ (at_ σ) (cl m z) (Builtin.zeroCells zv.cells m).toList:=by
     refine RelL.of_get (by simp [size_zeroCells,lL,hsize,hlen]) fun j av hav=> ?_
     have hzz:=tU (w:=w) (γ:=γ) (φ:=φ) (τ:=at_ σ) hcs hlen m (m*zv.cells.size) (by rw[hsize];exact Nat.le_refl _) j av hav;obtain⟨u,hu',hr'⟩:=hzz;exact⟨u,by rw[Array.getElem?_toList];exact hu',hr'⟩
    have hall:∀u∈(Builtin.zeroCells zv.cells m).toList,u.oneCell'=true:=En (by
     rw[List.all_eq_true];intro y hy;simp only[cl,List.mem_flatten,List.mem_replicate]at hy;obtain⟨l,⟨_,rfl⟩,hy⟩:=hy;exact List.all_eq_true.1 hok y hy) hcells
    have hzn:(cl m z).length=m*n:=by rw[lL,hzl]
    obtain⟨cur,T,hh,hsz,hpost⟩:=ra hS hR hcells hzn hfit (Nat.mul_pos (by omega) (by omega)) htr;have hzsz:(Builtin.zeroCells zv.cells m).toList.length=m*n:=by have:=hcells.len;omega
    have hst:=run_storeCells_at P (φ k) off T (Builtin.zeroCells zv.cells m).toList 0 cur w hh (by omega) hall;simp only[Nat.add_zero,hzsz]at hst;have hrun:(execOp ρ o).run P w=.ok (.value (.tuple #[])) (w.setRow (φ k) (cur.toList.take off++(Builtin.zeroCells zv.cells m).toList++cur.toList.drop (off+m*n)).toArray):=by
     simp [execOp,ho,resolve,hcal,ha,ht,invoke,builtin,Builtin.clear_,run_underlying hu,hp,h0,zeroValue,typeInfo,hi,hzv,hst]
    rw[hrun];simp only[Exec];exact⟨γ,φ,hpost _ _ (by simp [Rel,RelL])⟩
  ·exact h.elim
 ·exact h.elim
theorem mR(k:Nat):(∀av,Lift.rn (fg k) (Lift.rn (fg k) av)=Lift.rn (fg k) av)∧∀l,rnL (fg k) (rnL (fg k) l)=rnL (fg k) l:=by
 have h:∀(av:AV),Lift.rn (fg k) (Lift.rn (fg k) av)=Lift.rn (fg k) av:=by
  intro av;refine AV.rec (motive_1:=fun av=>Lift.rn (fg k) (Lift.rn (fg k) av)=Lift.rn (fg k) av) (motive_2:=fun l=>rnL (fg k) (rnL (fg k) l)=rnL (fg k) l) rfl rfl rfl (fun _=>rfl) ?_ ?_ ?_ ?_ (fun _ _=>rfl) (fun _=>rfl) (fun _=>rfl)
   (fun l h=>by simp only[Lift.rn,h]) (fun l h=>by simp only[Lift.rn,h]) (fun f l h=>by simp only[Lift.rn,h]) rfl (fun x l hx hl=>by simp only[rnL,hx,hl]) av
  ·intro i a b
   by_cases e:i=k<;>simp [Lift.rn,fg,e]
  ·intro i a
   by_cases e:i=k<;>simp [Lift.rn,fg,e]
  ·intro i a
   by_cases e:i=k<;>simp [Lift.rn,fg,e]
  ·intro i a b
   by_cases e:i=k<;>simp [Lift.rn,fg,e]
 exact⟨h,fun l=>by rw[aR,aR,List.map_map];exact List.map_congr_left fun x _=>h x⟩
theorem uH{γ:Labels}{φ:Nat→Nat}{w:World}{k:Nat}{R:Root}(hR:at_ σ k=some R)(hg:R.g=true){l:List AV}{w1:World}{γ1:Labels}{φ1:Nat→Nat}{r:AV}{v:Value}{e:Nat}
  (hK:Kst γ w γ1 w1)
  (hL:LiveR (fg k) w γ φ (fgS k (at_ σ)) w1 γ1 φ1 (upd (fgS k (at_ σ)) k (some ⟨e,true,rnL (fg k) R.cells++l⟩)))
  (hS1:Sim γ1 φ1 (upd (fgS k (at_ σ)) k (some ⟨e,true,rnL (fg k) R.cells++l⟩)) w1) (hr:Rel w1 γ1 φ1 (upd (fgS k (at_ σ)) k (some ⟨e,true,rnL (fg k) R.cells++l⟩)) r v):
  TPost γ φ σ w (.one k) r ((σ.map (Option.map fun R=>{ R with cells:=rnL (fg k) R.cells })).set k (some ⟨e,true,rnL (fg k) R.cells++l⟩)) v w1 γ1 φ1:=by
 have hat:at_ (σ.map (Option.map fun R=>{ R with cells:=rnL (fg k) R.cells }))=fgS k (at_ σ):=by
  funext i
  simp only[at_,fgS,List.getElem?_map];cases σ[i]? with
  |none=>rfl
  |some x=>cases x<;>rfl
 have hat2:at_ ((σ.map (Option.map fun R=>{ R with cells:=rnL (fg k) R.cells })).set k (some ⟨e,true,rnL (fg k) R.cells++l⟩))=upd (fgS k (at_ σ)) k (some ⟨e,true,rnL (fg k) R.cells++l⟩):=by
  rw[y7 _ (R:={ R with cells:=rnL (fg k) R.cells }) (by rw[hat];simp [fgS,hR]),hat]
 refine⟨hK,fun i Ri hi hgi=> ?_,by rw[hat2];exact hS1,fun av u hu=> ?_,by rw[hat2];exact hr⟩
 ·have hne:i≠k:=fun h=>by rw[h,hR]at hi;simp at hi;rw[← hi,hg]at hgi;cases hgi
  obtain⟨h1,_,_,_,_,h4,_⟩:=hL i i { Ri with cells:=rnL (fg k) Ri.cells } (by simp [fg,hne]) (by simp [fgS,hi]);exact⟨⟨h1,h4⟩,{ Ri with cells:=rnL (fg k) Ri.cells },by rw[hat2,au _ _ hne];simp [fgS,hi],hgi⟩
 ·have hrn:Rel w1 γ1 φ1 (at_ ((σ.map (Option.map fun R=>{ R with cells:=rnL (fg k) R.cells })).set k (some ⟨e,true,rnL (fg k) R.cells++l⟩))) (Lift.rn (fg k) av) u:=by
   rw[hat2, ← (mR k).1 av];exact Rel.monoR hK hL _ _ (Rel.monoR (Kst.refl _ _) (ug k) av u hu)
  show Rel _ _ _ _ (apV k av) u
  cases av with
  |own j o n=>
   by_cases hj:j=k
   ·rw[show apV k (.own j o n)=.lv n from if_pos hj]
    simp only[Rel]at hu ⊢;obtain⟨_,_,⟨hv,hn,_⟩|⟨c,_,_,hv,_⟩⟩:=hu
    ·exact⟨none,0,by rw[hv,hn]⟩
    ·exact⟨_,c,hv⟩
   ·rw[show apV k (.own j o n)=.own j o n from if_neg hj]
    have e1:Lift.rn (fg k) (.own j o n)=.own j o n:=by simp [Lift.rn,fg,hj]
    rw[e1]at hrn;exact hrn
  |_=>exact hrn
theorem u4{P:Program}(w:World)(t ty e:TypeId)(i:TypeInfo)(ht:P.underlying t=some (.slice e))(hi:P.info? e=some i)
  (g sLen sCap:Nat) (cur:Array Value) (T:TypeId) (hg:w.heap[g]? =some (.cells cur T (0,0)))
  (a:Addr) (m c:Nat) (news:List Value) (hl:news.length=m*i.size) (hnews:∀(j:Nat) (u:Value),news[j]? =some u→w.cell? (a.add j)=some u) (h1:∀u∈news,u.oneCell'=true)
  (hroom:sLen+m≤sCap) (hfit:sLen*i.size+news.length≤cur.size):
  (Builtin.append_ #[t,t] ty #[.slice (some ⟨g,0,none⟩) sLen sCap,.slice (some a) m c]).run P w=
   .ok (.slice (some ⟨g,0,none⟩) (sLen+m) sCap) (w.setRow g (cur.toList.take (sLen*i.size)++news++cur.toList.drop (sLen*i.size+news.length)).toArray):=by
 have hf:=run_firstCells_some (P:=P) w i.size m a m c news hl hnews;have hst:=run_storeCells_at P g (sLen*i.size) T news 0 cur w hg (by simpa using hfit) h1;simp only[Nat.add_zero]at hst;simp [Builtin.append_,run_underlying ht,sizeOf,typeInfo,hi,Builtin.lenOf,hroom,hf,db,hst]
theorem FB{k:Nat}{s:St}{w:World}{γ:Labels}{φ:Nat→Nat}{R':Option Root}:LiveR (fg k) w γ φ s w γ φ (upd s k R'):=by
 intro i i' R hi hR;obtain⟨rfl,hne⟩:=n7 hi;refine⟨rfl,R,by rw[au _ _ hne];exact hR,rfl,id,id,fun j x hx=>⟨⟨x,hx⟩,fun c c' T f T' f' h h'=> ?_⟩⟩;rw[h]at h';simp at h';rw[h'.1]
theorem N0(c:Call)(x y:Operand)(t:TypeId)(ho:o.op=.call c)(hcal:c.callee=.builtin .append)(hargs:c.args.toList=[x,y])(hat:c.argTypes.toList=[t,t]){e:TypeId}{i:TypeInfo}{z:List AV}{x' y':O}(hx:cO x=some x')(hy:cO y=some y')
  (hu:P.underlying t=some (.slice e)) (hi:P.info? e=some i) (hz:zOf P e=some z) (h1:1≤i.bytes) (h2:1≤i.size) (hc:cOp P o.op=some (.app i.size i.bytes z x' y')) (h:tI P σ ev (.app i.size i.bytes z x' y') K):SoundT P σ ev o K:=by
 simp only[tI]at h;split at h
 ·rename_i k off n hev
  split at h
  ·rename_i R m hR hm
   split at h
   ·rename_i l0 hl
    obtain⟨hg,he,rfl,hlen,hb,h⟩:=h;obtain⟨l,hldef⟩:∃l,l=rnL (fg k) l0:=⟨_,rfl⟩;rw[← hldef]at h;refine⟨_,_,_,h,fun γ φ w ρ hS hr _=> ?_⟩;have hp:=hr x x' hx (by simp [ho,Op.operands,Call.operands,hcal,hargs]);have hq:=hr y y' hy (by simp [ho,Op.operands,Call.operands,hcal,hargs]);rw[hev]at hp;obtain⟨i',zv,hi',hzv,hcs,hzl,hsize⟩:=j9 hz;rw[hi]at hi';obtain rfl:i=i':=by simpa using hi'
    obtain⟨A,cc,hv,hll0,hsrc⟩:=vV hS (fun _ _ h=>h) hm hl (fun h=>by rw[h];simp) hq;have hll:l.length=m*i.size:=by rw[hldef,aR,List.length_map];exact hll0
    have hlk:∀x∈l,Lift.rn (fg k) x=x:=by
     intro x hx;rw[hldef,aR,List.mem_map]at hx;obtain⟨y,_,rfl⟩:=hx
     exact(mR k).1 y
    have hLf:=ug (w:=w) (γ:=γ) (φ:=φ) (s:=at_ σ) k;have hSf:=hS.fgS k;have hRf:fgS k (at_ σ) k=some { R with cells:=rnL (fg k) R.cells }:=by simp [fgS,hR]
    simp only[Rel]at hp;obtain⟨R',hR',hp⟩:=hp;rw[hR]at hR';obtain rfl:R=R':=by simpa using hR'
    have hnof:∀(i:Nat) (R:Root),fgS k (at_ σ) i=some R→∀(j:Nat) (av:AV),R.cells[j]? =some av→Lift.rn (fg k) av=av:=by
     intro i R hR j av hav;simp only[fgS,zm]at hR;obtain⟨R0,_,rfl⟩:=hR;simp only[aR,List.getElem?_map,zm]at hav;obtain⟨a0,_,rfl⟩:=hav
     exact(mR k).1 a0
    have hbm:i.bytes*(n+m)=(n+m)*i.bytes:=Nat.mul_comm _ _;have hnm:n+m≤i.bytes*(n+m):=Nat.le_mul_of_pos_left _ h1;have hlm:l.length=m*i.size:=hll;have hrel':∀{news:List Value},RelL w γ φ (at_ σ) l0 news→RelL w γ φ (fgS k (at_ σ)) l news:=by
     intro news hrl;rw[hldef];exact RelL.monoR (Kst.refl _ _) hLf l0 news hrl
    have hcells:∀{news:List Value} {cur':Array Value} {cur:Array Value},RelL w γ φ (at_ σ) l0 news→(∀(j:Nat) (av:AV),R.cells[j]? =some av→∃v,cur[j]? =some v∧CRel w γ φ (at_ σ) k j av v)→
      (∀j,j<n*i.size→cur'[j]? =cur[j]?)→(∀j,j<news.length→cur'[n*i.size+j]? =news[j]?)→
      ∀(j:Nat) (av:AV),(rnL (fg k) R.cells++l)[j]? =some av→Lift.rn (fg k) av=av∧∃v,cur'[j]? =some v∧CRel w γ φ (fgS k (at_ σ)) k j av v:=by
     intro news cur' cur hrl hold hcur hnew j av hav;have hcl:(rnL (fg k) R.cells).length=n*i.size:=by simp [aR,hlen]
     rw[List.getElem?_append,hcl]at hav;split at hav
     ·rename_i hj
      simp only[aR,List.getElem?_map,zm]at hav;obtain⟨a0,h0,rfl⟩:=hav;obtain⟨u,hu,hr⟩:=hold j a0 h0;exact⟨(mR k).1 a0,u,by rw[hcur j hj];exact hu,CRel.monoR (Kst.refl _ _) hLf (fun _ _ _ h=>⟨h,rfl⟩) hr⟩
     ·rename_i hj
      obtain⟨u,hu,hr⟩:=(hrel' hrl).get hav;refine⟨hlk _ (List.mem_of_getElem? hav),u, ?_,CRel.of_rel hr⟩;have hlt:j-n*i.size<news.length:=(List.getElem?_eq_some_iff.1 hu).1;have:=hnew _ hlt;rw[show n*i.size+(j-n*i.size)=j by omega]at this;rw[this];exact hu
    have hcl:(rnL (fg k) R.cells).length=n*i.size:=by simp [aR,hlen]
    have hRe:∀cs,({ { R with cells:=rnL (fg k) R.cells } with cells:=cs }:Root)=⟨i.size,true,cs⟩:=fun cs=>by simp [he,hg]
    have same:m=0→∀{u:Value},Rel w γ φ (upd (fgS k (at_ σ)) k (some ⟨i.size,true,rnL (fg k) R.cells++l⟩)) (.own k 0 (n+m)) u→(execOp ρ o).run P w=.ok (.value u) w→
      Exec P (fun v w'=>∃γ' φ',TPost γ φ σ w (.one k) (.own k 0 (n+m)) ((σ.map (Option.map fun R=>{ R with cells:=rnL (fg k) R.cells })).set k (some ⟨i.size,true,rnL (fg k) R.cells++l⟩)) v w' γ' φ') ((execOp ρ o).run P w):=by
     intro hm0 u hu hrun;rw[hrun];simp only[Exec];have hl0:l=[]:=List.eq_nil_of_length_eq_zero (by rw[hll,hm0];simp);have hsame:upd (fgS k (at_ σ)) k (some ⟨i.size,true,rnL (fg k) R.cells++l⟩)=fgS k (at_ σ):=by
      funext j
      by_cases ej:j=k
      ·subst ej
       rw[aC,hRf,hl0,List.append_nil]
       congr 1
       exact(hRe _).symm
      ·exact au _ _ ej
     exact⟨γ,φ,uH hR hg (Kst.refl _ _) FB (by rw[hsame];exact hSf) hu⟩
    by_cases hm0:m=0
    ·rcases hp with ⟨hp,rfl,_⟩|⟨cap,cur,T,hp,hncap,hlab,hheap,hcap⟩
     ·refine same hm0 (u:=.slice none 0 0) (by simp only[Rel];exact⟨_,aC _ _ _,.inl ⟨trivial,by omega,trivial⟩⟩) (eQ ho hcal hargs hat fun ty=> ?_)
      rw[hp,hv,hm0];cases A with
      |none=>simp [Builtin.append_,run_underlying hu,sizeOf,typeInfo,hi,Builtin.lenOf,Builtin.firstCells]
      |some a=>simp [Builtin.append_,run_underlying hu,sizeOf,typeInfo,hi,Builtin.lenOf,Builtin.firstCells,loadCells,loadCellsFrom]
     ·refine same hm0 (u:=.slice (some ⟨φ k,0,none⟩) n cap) (by
       simp only[Rel];exact⟨_,aC _ _ _,.inr ⟨cap,cur,T,by rw[hm0,Nat.add_zero],by omega,hlab,hheap,fun _=>by have:=hcap hg;rw[he]at this;exact this⟩⟩) (eQ ho hcal hargs hat fun ty=> ?_)
      rw[hp,hv,hm0];cases A with
      |none=>simp [Builtin.append_,run_underlying hu,sizeOf,typeInfo,hi,Builtin.lenOf,Builtin.firstCells,hncap,storeCells]
      |some a=>simp [Builtin.append_,run_underlying hu,sizeOf,typeInfo,hi,Builtin.lenOf,Builtin.firstCells,loadCells,loadCellsFrom,hncap,storeCells]
    have hne:m*i.size≠0:=fun h=>by rcases Nat.mul_eq_zero.1 h with h|h<;>omega
    obtain⟨a,news,rfl,hnl,hncells,hrel,hone⟩:=hsrc.resolve_left hne;have hone':news.length=m*i.size:=hnl;have hadd:(n+m)*i.size=n*i.size+m*i.size:=Nat.add_mul _ _ _;have moved:∀(cur:Array Value) (c':Nat),(∀(j:Nat) (av:AV),R.cells[j]? =some av→∃v,cur[j]? =some v∧CRel w γ φ (at_ σ) k j av v)→n*i.size≤cur.size→n+m≤c'→
      (execOp ρ o).run P w=.ok (.value (.slice (some ⟨w.heap.size,0,none⟩) (n+m) c')) (w.drew.alloc (.cells ((cur.toList.take (n*i.size)).toArray++news.toArray++Builtin.zeroCells zv.cells (c'-(n+m))) e))→
      Exec P (fun v w'=>∃γ' φ',TPost γ φ σ w (.one k) (.own k 0 (n+m)) ((σ.map (Option.map fun R=>{ R with cells:=rnL (fg k) R.cells })).set k (some ⟨i.size,true,rnL (fg k) R.cells++l⟩)) v w' γ' φ') ((execOp ρ o).run P w):=by
     intro cur c' hold hsz hnc hrun;rw[hrun];simp only[Exec];have hsize':((cur.toList.take (n*i.size)).toArray++news.toArray++Builtin.zeroCells zv.cells (c'-(n+m))).size=c'*i.size:=by
      simp only[Array.size_append,List.size_toArray,List.length_take,Array.length_toList,size_zeroCells,hsize,hone'];have:(c'-(n+m))*i.size+(n+m)*i.size=c'*i.size:=by rw[← Nat.add_mul];congr 1;omega
      omega
     have hSd:Sim γ φ (fgS k (at_ σ)) w.drew:=hSf.drew;obtain⟨γ',hγk,hK,hL,hS'⟩:=hSd.move hRf hnof ((cur.toList.take (n*i.size)).toArray++news.toArray++Builtin.zeroCells zv.cells (c'-(n+m))) e (rnL (fg k) R.cells++l) (by
       rw[hsize',List.length_append,hcl,hll, ← Nat.add_mul];exact Nat.mul_le_mul_right _ hnc) (fun j av hav=>by
       obtain⟨h1,v,hv,hr⟩:=hcells (cur':=(cur.toList.take (n*i.size)).toArray++news.toArray++Builtin.zeroCells zv.cells (c'-(n+m))) hrel hold (fun j hj=>by
         rw[Array.append_assoc,Array.getElem?_append_left (by simp;omega)];simp [hj]) (fun j hj=>by
         rw[Array.getElem?_append_left (by simp;omega),Array.getElem?_append_right (by simp;omega)]
         simp
         congr 1
         omega) j av hav
       refine⟨h1,v,hv, ?_⟩;exact CRel.mono (Kst.drew γ w) (Live.refl w γ φ (fgS k (at_ σ)) |> fun h=>h) (fun _ _ h=>h) (fun _ _ _ _=>rfl) hr)
     simp only[hRe]at hL hS';refine⟨γ',upd φ k w.heap.size,uH hR hg ((Kst.drew γ w).trans hK) hL hS' ?_⟩;simp only[Rel];refine⟨_,aC _ _ _,.inr ⟨c',_,e,by rw[aC],hnc,by rw[aC];exact hγk,by rw[aC];exact heap_alloc_new w.drew _,fun _=>by rw[hsize'];simp⟩⟩
    rcases hp with ⟨hp,rfl,_⟩|⟨cap,cur,T,hp,hncap,hlab,hheap,hcap⟩
    ·have hR0:R.cells=[]:=List.eq_nil_of_length_eq_zero (by rw[hlen];simp)
     have hge:=grownCap_ge w m 0 e;refine moved #[] (grownCap w m 0 e) (fun j av hav=>by simp [hR0]at hav) (by simp) (by omega) ?_;have hrun:=fun ty=>run_append_nil (P:=P) w t ty e i zv hu hi hzv a m cc news hnl hncells (by omega) (by omega) (by have hb':=hb;rw[Nat.zero_add,Nat.mul_comm]at hb';omega)
     rw[eQ ho hcal hargs hat (fun ty=>by rw[hp,hv];exact hrun ty)]
     simp
    ·have hold:∀(j:Nat) (av:AV),R.cells[j]? =some av→∃v,cur[j]? =some v∧CRel w γ φ (at_ σ) k j av v:=by
      intro j av hav;rcases hS.root k R hR with h0|⟨cur',T',hh',_,_,hc'⟩
      ·simp [h0]at hav
      ·rw[hheap]at hh'
       simp at hh';obtain⟨rfl,_⟩:=hh';exact hc' j av hav
     have hcap':=hcap hg;rw[he,Nat.zero_add]at hcap';have hnsz:n*i.size≤cur.size:=Nat.le_trans (Nat.mul_le_mul_right _ hncap) hcap';by_cases hroom:n+m≤cap
     ·have hfit:(n+m)*i.size≤cur.size:=Nat.le_trans (Nat.mul_le_mul_right _ hroom) hcap'
      have hrun:=fun ty=>u4 (P:=P) w t ty e i hu hi (φ k) n cap cur T hheap a m cc news hnl hncells hone hroom (by omega)
      rw[eQ ho hcal hargs hat (fun ty=>by rw[hp,hv];exact hrun ty)];simp only[Exec];have hget:=fun j=>fO (a:=cur.toList) (l:=news) (off:=n*i.size) (n:=news.length) rfl (by simp;omega) j
      obtain⟨hK,hL,hS'⟩:=hSf.setRow hRf hheap hlab (cur.toList.take (n*i.size)++news++cur.toList.drop (n*i.size+news.length)).toArray (by simp;omega) (rnL (fg k) R.cells++l) (by rw[List.length_append,hcl,hll];omega)
       (fun j av hav=>(hcells hrel hold (fun j hj=>by rw[List.getElem?_toArray,hget,if_neg (by omega)];simp) (fun j hj=>by rw[List.getElem?_toArray,hget,if_pos (by omega)];congr 1;omega) j av hav).2)
       (fun j x hx=>by
        have hj:j<n*i.size:=by rw[← hcl];exact(List.getElem?_eq_some_iff.1 hx).1
        refine⟨⟨x,by rw[List.getElem?_append_left (by omega)];exact hx⟩, ?_⟩;rw[List.getElem?_toArray,hget,if_neg (by omega)]
        simp)
      simp only[hRe]at hL hS';refine⟨γ,φ,uH hR hg hK (fun i i' Ri hi hRi=> ?_) hS' ?_⟩
      ·obtain⟨rfl,hne⟩:=n7 hi
       exact hL i' Ri hRi
      ·simp only[Rel]
       exact⟨_,aC _ _ _,.inr ⟨cap,_,T,rfl,hroom,hlab,setRow_heap w _ cur _ T _ hheap,fun _=>by simp;omega⟩⟩
     ·have hge:=grownCap_ge w (n+m) cap e
      refine moved cur (grownCap w (n+m) cap e) hold hnsz hge ?_;have holdl:(cur.toList.take (n*i.size)).length=n*i.size:=by simp;omega
      have hrun:=fun ty=>run_append_grow (P:=P) w t ty e i zv hu hi hzv ⟨φ k,0,none⟩ n cap (cur.toList.take (n*i.size)) holdl (fun j v hv=>by
        rw[db,Nat.zero_add];rw[List.getElem?_take]at hv;split at hv
        ·exact eZ hheap (by simpa using hv)
        ·cases hv) a m cc news hnl hncells (by omega) (by omega) (growslice_fits (by omega) (by rw[← hbm];exact hb))
      rw[eQ ho hcal hargs hat (fun ty=>by rw[hp,hv];exact hrun ty)]
   ·exact h.elim
  ·exact h.elim
 ·exact cw hc h
theorem wy{i:I}(hc:cOp P o.op=some i)(h:tI P σ ev i K):SoundT P σ ev o K:=by
 have hc0:=hc;cases hop:o.op with
 |store t a x=>
  simp only[hop,cOp]at hc;split at hc
  ·rename_i n a' x' hn ha hx
   split at hc
   ·rename_i h1
    simp only[zj]at hc;subst hc;exact t_st t a x hop hn h1 ha hx h
   ·cases hc
  ·cases hc
 |call c=>
  simp only[hop,cOp]at hc;unfold EN at hc;split at hc
  ·split at hc
   ·rename_i f hcal _ _ fn l hf hl
    split at hc
    ·rename_i hcond
     simp only[zj]at hc;subst hc;simp only[Bool.and_eq_true,Bool.not_eq_true']at hcond;rcases h with h|h|h
     ·exact cw hc0 h
     ·exact Gy c f hop hcal hf hcond.1 hcond.2 hl h
     ·exact Gz c f hop hcal hf hcond.1 hcond.2 hl h
    ·cases hc
   ·cases hc
  ·split at hc
   ·split at hc
    ·simp only[zj]at hc
     subst hc;exact cw hc0 h
    ·simp only[zj]at hc
     subst hc;exact cw hc0 h
    ·cases hc
   ·cases hc
  ·split at hc
   ·split at hc
    ·simp only[zj]at hc
     subst hc;exact cw hc0 h
    ·cases hc
   ·cases hc
  ·split at hc
   ·split at hc
    ·simp only[zj]at hc
     subst hc;exact cw hc0 h
    ·cases hc
   ·cases hc
  ·rename_i hcal
   split at hc
   ·rename_i x y t u hargs hat
    split at hc
    ·rename_i e x' y' hu hx hy
     split at hc
     ·rename_i j z hj hz
      split at hc
      ·rename_i hcond
       simp only[zj]at hc;subst hc;obtain⟨c1,c2,rfl⟩:=hcond;exact N0 c x y u hop hcal hargs hat hx hy hu hj hz c1 c2 hc0 h
      ·cases hc
     ·cases hc
    ·cases hc
   ·cases hc
  ·rename_i hcal
   split at hc
   ·rename_i x y t u hargs hat
    split at hc
    ·rename_i e x' y' hu hx hy
     simp only[Option.bind_eq_some_iff]at hc;obtain⟨n,hn,hc⟩:=hc;split at hc
     ·rename_i h1
      simp only[zj]at hc;subst hc;exact LP c x y t u hop hcal hargs hat hx hy hu hn h1 h
     ·cases hc
    ·cases hc
   ·cases hc
  ·rename_i hcal
   split at hc
   ·rename_i x t hargs hat
    split at hc
    ·rename_i e x' hu hx
     split at hc
     ·rename_i n z hn hz
      simp only[zj]at hc;subst hc;exact Jz c x t hop hcal hargs hat hx hu hn hz h
     ·cases hc
    ·cases hc
   ·cases hc
  ·rename_i hcal
   simp only[zm]at hc;obtain⟨l,hl,rfl⟩:=hc;rcases h with h|h
   ·exact cw hc0 h
   ·exact Jy c _ hop hcal hl h
  ·cases hc
 |unOp u t x=>
  cases u with
  |not=>simp only[hop,cOp,zm]at hc;obtain⟨y,hy,rfl⟩:=hc;exact cw hc0 h
  |neg=>simp only[hop,cOp,zm]at hc;obtain⟨y,hy,rfl⟩:=hc;exact cw hc0 h
  |_=>simp [hop,cOp]at hc
 |slice t x lo hi mx=>
  cases mx with
  |some _=>simp [hop,cOp]at hc
  |none=>
   simp only[hop,cOp]at hc;split at hc
   ·simp only[Option.bind_eq_some_iff]at hc
    obtain⟨n,hn,hc⟩:=hc;split at hc
    ·simp only[zj]at hc
     subst hc;exact cw hc0 h
    ·cases hc
   ·cases hc
 |makeFunc fn first caps=>
  cases fn with
  |func f=>
   simp only[hop,cOp]at hc;split at hc
   ·simp only[zm]at hc
    obtain⟨l,hl,rfl⟩:=hc;exact cw hc0 h
   ·cases hc
  |_=>simp [hop,cOp]at hc
 |_=>
  cases i with
  |st n a x=>exact absurd hc (by simp [hop,cOp]<;>(try (repeat' split)<;>simp))
  |copy e d x=>exact absurd hc (by simp [hop,cOp]<;>(try (repeat' split)<;>simp))
  |clear e z x=>exact absurd hc (by simp [hop,cOp]<;>(try (repeat' split)<;>simp))
  |app e b z s x=>exact absurd hc (by simp [hop,cOp]<;>(try (repeat' split)<;>simp))
  |call f a=>exact absurd hc (by simp [hop,cOp]<;>(try (repeat' split)<;>simp))
  |cvl x a=>exact absurd hc (by simp [hop,cOp]<;>(try (repeat' split)<;>simp))
  |_=>exact cw hc0 h
end
end Go.Lift
namespace Go.Lift
open Go.RowKit
def SR(γe:Labels)(φ0:Nat→Nat)(we:World)(σ0:Sto)(env:List AV)(σ:Sto)(a:Act)(w:World):Prop:=
 ∃γ φ,Kst γe we γ w∧Sim γ φ (at_ σ) w∧RelL w γ φ (at_ σ) env a.tmps.toList∧a.defers=[]∧
  ∀k R,at_ σ0 k=some R→R.g=false→Stay γe φ0 γ φ k∧∃R',at_ σ k=some R'∧R'.g=false
section
variable {w : World} {γ : Labels} {φ : Nat → Nat} {s : St}
theorem dY{env:List AV}{a:Act}(h:RelL w γ φ s env a.tmps.toList)(t:Nat):Rel w γ φ s (env.getD t .any) (a.tmps.getD t undef):=by
 by_cases ht:t<env.length
 ·obtain⟨v,hv,hr⟩:=h.get (zg ht)
  simp only[Array.getElem?_toList]at hv;rw[Array.getD_eq_getD_getElem?,hv,zq,zg ht];exact hr
 ·rw[zq,List.getElem?_eq_none (by omega)]
  simp [Rel]
theorem B3{env:List AV}{a:Act}(h:RelL w γ φ s env a.tmps.toList){X:Operand}{Y:O}(hc:cO X=some Y):Rel w γ φ s (O.ev env Y) (a.eval X):=by
 cases X with
 |tmp t=>
  simp only[cO,zj]at hc;subst hc;exact dY h t
 |const v=>
  simp only[cO,zj]at hc;subst hc;exact tB v
 |global g=>simp [cO]at hc
 |func f=>simp [cO]at hc
theorem BP{env:List AV}{a:Act}(h:RelL w γ φ s env a.tmps.toList)(dst:Option Nat){r:AV}{v:Value}(hr:Rel w γ φ s r v):RelL w γ φ s (put env dst r) (a.put dst v).tmps.toList:=by
 cases dst with
 |none=>exact h
 |some d=>
  simp only[put,Act.put];have hl:=h.len;refine RelL.of_get (by simp at hl ⊢;exact hl) fun i x hx=> ?_
  rw[List.getElem?_set]at hx;by_cases e:d=i
  ·subst e
   rw[if_pos rfl]at hx;split at hx
   ·rename_i hlt
    simp only[zj]at hx;subst hx;simp at hl;exact⟨v,by simp [show d<a.tmps.size by omega],hr⟩
   ·cases hx
  ·rw[if_neg e]at hx
   obtain⟨u,hu,hru⟩:=h.get hx;exact⟨u,by rw[Array.toList_setIfInBounds,List.getElem?_set,if_neg e];exact hu,hru⟩
theorem t7{ops:Array Oper}{o:Oper}{g:Option (Nat × Bool)}{env:List AV}{a:Act}{A B:Prop}(hg:cG ops.toList o.guard=some g)(h:gd g env A B)(hr:∀t want,g=some (t,want)→Rel w γ φ s (env.getD t .any) (a.tmps.getD t undef)):
  (Region.wanted o (yielded ops a.tmps)=true∧A)∨(Region.wanted o (yielded ops a.tmps)=false∧B):=by
 unfold Region.wanted;cases hgd:o.guard with
 |none=>
  rw[hgd]at hg;simp only[cG,zj]at hg;subst hg;exact .inl ⟨rfl,h⟩
 |some jb=>
  obtain⟨j,want⟩:=jb;rw[hgd]at hg;simp only[cG]at hg;split at hg
  ·rename_i oj hoj
   split at hg
   ·rename_i t ht
    simp only[zj]at hg;subst hg;simp only[gd]at h;have hoj':ops[j]? =some oj:=by simpa using hoj
    have hrt:=hr t want rfl;split at h
    ·rename_i b hb
     rw[hb]at hrt;have hv:=dI hrt;have ht2:a.tmps[t]? =some (.bool b):=by
      rw[Array.getD_eq_getD_getElem?]at hv;cases hx:a.tmps[t]? with
      |none=>rw[hx]at hv;simp [undef]at hv
      |some u=>rw[hx]at hv;simp at hv;rw[hv]
     have hy:yielded ops a.tmps j=some b:=by simp [yielded,hoj',ht,ht2]
     simp only[hy];split at h
     ·rename_i hbw
      subst hbw;exact .inl ⟨by simp,h⟩
     ·rename_i hbw
      exact .inr ⟨by simpa using hbw,h⟩
    ·rename_i hu
     rw[hu]at hrt;have hv:a.tmps.getD t undef=undef:=by simpa [Rel]using hrt
     have hy:yielded ops a.tmps j=none:=by
      simp only[yielded,hoj',Option.bind_some,ht];rw[Array.getD_eq_getD_getElem?]at hv;cases hx:a.tmps[t]? with
      |none=>rfl
      |some u=>rw[hx]at hv;simp at hv;rw[hv];rfl
     exact .inr ⟨by simp [hy],h⟩
    ·exact h.elim
   ·cases hg
  ·cases hg
end
section
variable {P : Program} {γe : Labels} {φ0 : Nat → Nat} {we : World} {σ0 : Sto}
theorem uI(ks:Fg)(env:List AV):ei ks env=env.map ks.ap:=by
 cases ks with
 |no=>rw[show Fg.ap .no=id from rfl];simp [ei]
 |one k=>simp only[ei,EQ];rfl
 |call gv M=>simp only[ei,p6];rfl
theorem Da{o:Oper}{i:I}(hc:cOp P o.op=some i){env:List AV}{σ:Sto}{K:Fg→AV→Sto→Prop}(h:tI P σ (O.ev env) i K){a:Act}{w:World}(hS:SR γe φ0 we σ0 env σ a w){next:Act→World→Prop}{Q:Exit→Act→World→Prop}
  (hn:∀ks r σ' a' w',K ks r σ'→SR γe φ0 we σ0 (put (ei ks env) o.dst r) σ' a' w'→next a' w'):o.wp P a w next Q:=by
 obtain⟨ks,r,σ',hK,hs⟩:=wy hc h;obtain⟨γ,φ,hKst,hSim,hE,hd,hfix⟩:=hS;have hex:=hs γ φ w a.eval hSim (fun X Y hc _=>B3 hE hc) ⟨fun _=>rfl,fun _=>rfl⟩;refine Exec.upon hex fun v w' hq=> ?_
 obtain⟨γ',φ',hp⟩:=hq;refine hn ks r σ' _ w' hK ⟨γ',φ',hKst.trans hp.kst,hp.sim, ?_, ?_,fun k R hR hg=> ?_⟩
 ·refine BP (a:=a) ?_ o.dst hp.rel
  rw[uI];refine RelL.of_get (by have:=hE.len;simp at this ⊢;omega) fun j x hx=> ?_
  simp only[List.getElem?_map,zm]at hx;obtain⟨y,hy,rfl⟩:=hx;obtain⟨u,hu,hr⟩:=hE.get hy;exact⟨u,hu,hp.pers y u hr⟩
 ·cases hdst:o.dst<;>simpa [Act.put]using hd
 ·obtain⟨h1,R1,h2,h3⟩:=hfix k R hR hg
  obtain⟨h4,R2,h5,h6⟩:=hp.fix k R1 h2 h3;exact⟨h1.trans h4,R2,h5,h6⟩
theorem Dd{env:List AV}{σ:Sto}{a:Act}{w:World}(hS:SR γe φ0 we σ0 env σ a w)(dst:Option Nat):SR γe φ0 we σ0 (put env dst .und) σ (a.put dst undef) w:=by
 obtain⟨γ,φ,hKst,hSim,hE,hd,hfix⟩:=hS;exact⟨γ,φ,hKst,hSim,BP hE dst (by simp [Rel]),by cases dst<;>simpa [Act.put]using hd,hfix⟩
theorem dF{ops:Array Oper}{Q:Exit→Act→World→Prop}:∀(l:List Oper) (l':List Ins),bw P ops.toList l=some l'→∀{env:List AV} {σ:Sto} {K:List AV→Sto→Prop} {a:Act} {w:World},runT P l' env σ K→SR γe φ0 we σ0 env σ a w→
  (∀env σ a w,K env σ→SR γe φ0 we σ0 env σ a w→Q .normal a w)→wpList P ops Q l a w
 | [],l',hc,env,σ,K,a,w,h,hS,hQ=>by
  simp only[bw,zj]at hc;subst hc;exact hQ env σ a w h hS
 |o :: l,l',hc,env,σ,K,a,w,h,hS,hQ=>by
  simp only[bw]at hc;split at hc
  ·rename_i ins m hi hm
   simp only[zj]at hc;subst hc;unfold cIns at hi;split at hi
   ·rename_i i g hop hg
    simp only[zj]at hi;subst hi;simp only[runT]at h;have hS0:=hS;obtain⟨γ,φ,hKst,hSim,hE,hd,hfix⟩:=hS0;unfold wpList;rcases t7 hg h (fun t _ _=>dY hE t)with ⟨hw,h⟩|⟨hw,h⟩
    ·rw[if_pos hw]
     exact .inl (Da hop h hS fun ks r σ' a' w' hK hS'=>dF l m hm hK hS' hQ)
    ·rw[if_neg (by simp [hw])]
     exact dF l m hm h (Dd hS o.dst) hQ
   ·cases hi
  ·cases hc
end
end Go.Lift
