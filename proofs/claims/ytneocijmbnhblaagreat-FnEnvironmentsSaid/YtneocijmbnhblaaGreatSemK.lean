/-
 Networks over the labels 0 to 5: a tensor replaced, its environment, and sums of tensors. No condition.
-/
import Derived.Test.YtneocijmbnhblaaGreatSemH
import Derived.Test.YtneocijmbnhblaaGreatGenG
set_option linter.unusedSimpArgs false
set_option linter.unusedVariables false
namespace Go.Proofs.YtneocijmbnhblaaGreat.Sem
open Plain
section
variable {E : Type} (S : SR E) {dim dim' : Int → Nat}
theorem pV:∀ {L:List Int},(∀ x∈L,dim x=dim' x)→pN dim L=pN dim' L
 | [],_=>rfl
 | x :: L,h=>by rw[pN,pN,h x List.mem_cons_self,pV fun y hy=>h y (List.mem_cons_of_mem _ hy)]
theorem uP:∀ {L:List Int} {a:Asg},(∀ x∈L,dim x=dim' x)→offR dim L a=offR dim' L a
 | [],_,_=>rfl
 | x :: L,a,h=>by rw[offR,offR,pV fun y hy=>h y (List.mem_cons_of_mem _ hy),uP fun y hy=>h y (List.mem_cons_of_mem _ hy)]
theorem uh {f:Asg→E}:∀ {L:List Int} {a:Asg},(∀ x∈L,dim x=dim' x)→sumL S dim L f a=sumL S dim' L f a
 | [],_,_=>rfl
 | x :: L,a,h=>by
  rw[sumL,sumL,h x List.mem_cons_self]
  exact cw S fun v _=>uh fun y hy=>h y (List.mem_cons_of_mem _ hy)
theorem ui {f g:Asg→E}:∀ (L:List Int) (a:Asg),sumL S dim L (fun b=>S.add (f b) (g b)) a=S.add (sumL S dim L f a) (sumL S dim L g a)
 | [],_=>rfl
 | x :: L,a=>by
  rw[sumL,sumL,sumL, ← vQ]
  exact cw S fun v _=>ui L _
end
theorem pK {α:Type} {x:α}:∀ {l:List α} {k:Nat},k<l.length→(l.set k x).Perm (x :: l.eraseIdx k)
 | [],_,h=>by simp at h
 | y :: l,0,_=>List.Perm.refl _
 | y :: l,k+1,h=>((pK (l:=l) (by simpa using h)).cons y).trans (List.Perm.swap x y _)
def d6:Int→Nat:=fun x=>(dimL x).toNat
theorem B5 (x:Int):(d6 x:Int)=dimL x:=by have:=gY (x:=x);unfold d6;omega
theorem EA (x:Int):1≤d6 x:=by have:=gY (x:=x);unfold d6;omega
section
variable {r : Rg} {wd : Nat} (hr : aq r = true) (hw : ar r = wd) {dim dim' : Int → Nat}
theorem xy {t:Ten} (h:∀ x∈t.labels,dim x=dim' x):elT hr hw dim t=elT hr hw dim' t:=by
 funext a
 unfold elT
 rw[uP h]
theorem TV.reDim {t:Ten} (h:TV r wd dim t) (e:∀ x∈t.labels,dim x=dim' x):TV r wd dim' t:=
 ⟨h.nd,h.dm.trans (List.map_congr_left fun x hx=>by rw[e x hx]),fun x hx=>by rw[← e x hx];exact h.dp x hx,by rw[h.len,pV e],h.fit⟩
theorem fO (hw:ar r=wd) {t:Ten} (h:Nat6 t) (hok:aA r t.labels t.dims t.data=true):TV r wd d6 t:=by
 have hdm:t.dims=bQ d6 t.labels:=h.dims.trans (List.map_congr_left fun x _=>(B5 x).symm)
 have hf:=(cQ hok).2.2.2.2.2
 refine⟨h.nd,hdm,fun x _=>EA x, ?_,kT hok⟩
 rw[hdm,dC,hw]at hf
 exact_mod_cast hf
end
section
variable {N : Net} {wd : Nat}
theorem vB (h:Gen6 N) {x:Int} (hx:x∈aF N):dimF N x=d6 x:=by
 have h1:=(eF h.ok).1 hx
 have h2:=jf h.ok x
 have h3:=B5 x
 rcases wF h.six x with e | e<;>omega
theorem ny (h:br N=true) {x:Int}:x∈aF N↔∃ t∈N.ts,x∈t.labels:=
 ⟨fun hx=>jO ((eF h).1 hx),fun⟨t,ht,hx⟩=>fY h ht hx⟩
theorem fi (h:br N=true) {x:Int}:x∈ce N↔(∃ t∈N.ts,x∈t.labels)∧x∉N.os:=by
 rw[ce,List.mem_filter,ny h,Bool.not_eq_true',bH]
theorem g9 (N:Net):(ce N).Nodup:=(fI N).filter _
theorem nv6 (h:Gen6 N) (hr:aq N.rg=true) (hw:ar N.rg=wd):TV N.rg wd d6 (nvR N wd)∧
  ∀ a:Asg,(∀ x∈N.os,a x<d6 x)→elT hr hw d6 (nvR N wd) a=valL (aH hr hw) d6 (N.ts.map (elT hr hw d6)) (ce N) a:=by
 obtain⟨h1,h2⟩:=Ab h.ok hw
 have ho:∀ x∈N.os,dimF N x=d6 x:=fun x hx=>vB h (ow h.ok x hx)
 refine⟨h1.reDim ho,fun a ha=> ?_⟩
 rw[← xy hr hw (dim:=dimF N) ho,h2 a fun x hx=>by rw[ho x hx];exact ha x hx]
 have e1:N.ts.map (elT hr hw (dimF N))=N.ts.map (elT hr hw d6):=List.map_congr_left fun t ht=>xy hr hw fun x hx=>vB h (fY h.ok ht hx)
 unfold valL
 rw[e1]
 exact uh _ fun x hx=>vB h (List.mem_filter.1 hx).1
def repN (N:Net) (k:Nat) (t:Ten):Net:={ N with ts:=N.ts.set k t }
def dW (r:Rg) (wd:Nat) (t:Ten):Ten:=⟨t.labels,t.dims,repE (oneE r wd) (bf t.dims)⟩
def envN (N:Net) (wd:Nat) (k:Nat) (T:Ten):Net:={ N with ts:=N.ts.set k (dW N.rg wd T),os:=aK N.os T.labels }
theorem xa (hr:aq N.rg=true) (hw:ar N.rg=wd) {T:Ten} (h:TV N.rg wd d6 T):TV N.rg wd d6 (dW N.rg wd T)∧∀ a:Asg,(∀ x∈T.labels,a x<d6 x)→elT hr hw d6 (dW N.rg wd T) a=(aH hr hw).one:=by
 have hd:(dW N.rg wd T).data=repE (oneE N.rg wd) (pN d6 T.labels):=by
  show repE (oneE N.rg wd) (bf T.dims)=_
  rw[h.dm,ge]
 have hlo:=dF N.rg wd
 have hlen:(dW N.rg wd T).data.length=pN d6 T.labels*wd:=by rw[hd,dh,hlo]
 have hT:TV N.rg wd d6 (dW N.rg wd T):=⟨h.nd,h.dm,h.dp,hlen,iE hr hw hlen fun k hk=>by rw[hd,iK hlo hk];exact El.unit hr hw⟩
 refine⟨hT,fun a ha=>nV hr hw hT ha ?_⟩
 rw[hd]
 show cutE (repE (oneE N.rg wd) (pN d6 T.labels)) wd (offR d6 T.labels a)=oneE N.rg wd
 exact iK hlo (ei d6 ha)
theorem rep6 (h:Gen6 N) {k:Nat} (hk:k<N.ts.length) {t:Ten} (ht:Nat6 t) (hok:aA N.rg t.labels t.dims t.data=true) (hl:∀ x,x∈t.labels↔x∈N.ts[k].labels):Gen6 (repN N k t):=by
 have hb:=ay.1 h.ok
 have hall:∀ u∈(repN N k t).ts,Nat6 u∧aA N.rg u.labels u.dims u.data=true:=fun u hu=>by
  rcases List.mem_or_eq_of_mem_set hu with hu | rfl
  ·exact⟨h.six u hu,hb.2.2.1 u hu⟩
  ·exact⟨ht,hok⟩
 refine⟨sY (N:=repN N k t) hb.1 (by show (N.ts.set k t).length≤12;rw[List.length_set];exact hb.2.1) hall (show N.os.Nodup from m6 h.ok) fun x hx=> ?_,fun u hu=>(hall u hu).1⟩
 obtain⟨u,hu,hxu⟩:=h.ots x hx
 obtain⟨i,hi,rfl⟩:=List.getElem_of_mem hu
 by_cases e:i=k
 ·subst e
  exact⟨t,List.mem_set hi t,(hl x).2 hxu⟩
 ·refine⟨N.ts[i], ?_,hxu⟩
  have:(N.ts.set k t)[i]'(by rw[List.length_set];exact hi)=N.ts[i]:=List.getElem_set_ne (Ne.symm e) _
  show N.ts[i]∈N.ts.set k t
  rw[← this]
  exact List.getElem_mem _
theorem sX {k:Nat} (hk:k<N.ts.length) {t:Ten} (hl:∀ x,x∈t.labels↔x∈N.ts[k].labels) {x:Int}:(∃ u∈N.ts.set k t,x∈u.labels)↔∃ u∈N.ts,x∈u.labels:=by
 constructor
 ·rintro⟨u,hu,hx⟩
  rcases List.mem_or_eq_of_mem_set hu with hu | rfl
  ·exact⟨u,hu,hx⟩
  ·exact⟨_,List.getElem_mem hk,(hl x).1 hx⟩
 ·rintro⟨u,hu,hx⟩
  obtain⟨i,hi,rfl⟩:=List.getElem_of_mem hu
  by_cases e:i=k
  ·subst e
   exact⟨t,List.mem_set hi t,(hl x).2 hx⟩
  ·have:(N.ts.set k t)[i]'(by rw[List.length_set];exact hi)=N.ts[i]:=List.getElem_set_ne (Ne.symm e) _
   exact⟨N.ts[i],by rw[← this];exact List.getElem_mem _,hx⟩
end
end Go.Proofs.YtneocijmbnhblaaGreat.Sem
namespace Go.Proofs.YtneocijmbnhblaaGreat.Sem
open Plain
section
variable {N : Net} {wd : Nat}
theorem env6 (h:Gen6 N) (hw:ar N.rg=wd) {k:Nat} (hk:k<N.ts.length):Gen6 (envN N wd k N.ts[k]):=by
 have hb:=ay.1 h.ok
 have hr:=hb.1
 have hmem:=List.getElem_mem hk
 have hT:=fO hw (h.six _ hmem) (hb.2.2.1 _ hmem)
 have h6:=h.six _ hmem
 obtain⟨ho,_⟩:=xa hr hw hT
 have hon:Nat6 (dW N.rg wd N.ts[k]):=⟨h6.dims,h6.nd,h6.bd,h6.len⟩
 have hok:aA N.rg (dW N.rg wd N.ts[k]).labels (dW N.rg wd N.ts[k]).dims (dW N.rg wd N.ts[k]).data=true:=by
  refine hon.ok hr ?_ ho.fit
  rw[ho.len,ho.dm,dC,hw]
  push_cast
  rfl
 have hall:∀ u∈(envN N wd k N.ts[k]).ts,Nat6 u∧aA N.rg u.labels u.dims u.data=true:=fun u hu=>by
  rcases List.mem_or_eq_of_mem_set hu with hu | rfl
  ·exact⟨h.six u hu,hb.2.2.1 u hu⟩
  ·exact⟨hon,hok⟩
 have hocc:=fun x=>sX (N:=N) hk (t:=dW N.rg wd N.ts[k]) (fun _=>Iff.rfl) (x:=x)
 refine⟨sY (N:=envN N wd k N.ts[k]) hb.1 (by show (N.ts.set k _).length≤12;rw[List.length_set];exact hb.2.1) hall (show (aK N.os N.ts[k].labels).Nodup from mC (m6 h.ok) h6.nd) fun x hx=> ?_,fun u hu=>(hall u hu).1⟩
 refine(hocc x).2 ?_
 rcases aX.1 (show x∈aK N.os N.ts[k].labels from hx)with hx | hx
 ·exact h.ots x hx
 ·exact⟨_,hmem,hx⟩
theorem lW (h:Gen6 N) (hr:aq N.rg=true) (hw:ar N.rg=wd) {k:Nat} (hk:k<N.ts.length) {t:Ten} (ht:Nat6 t) (hok:aA N.rg t.labels t.dims t.data=true) (hl:∀ x,x∈t.labels↔x∈N.ts[k].labels):
  TV N.rg wd d6 (nvR (repN N k t) wd)∧∀ a:Asg,(∀ x∈N.os,a x<d6 x)→elT hr hw d6 (nvR (repN N k t) wd) a=
   sumL (aH hr hw) d6 (ce N) (fun b=>(aH hr hw).mul (elT hr hw d6 t b) (prL (aH hr hw) ((N.ts.eraseIdx k).map (elT hr hw d6)) b)) a:=by
 have h6:=rep6 h hk ht hok hl
 obtain⟨h1,h2⟩:=nv6 h6 hr hw
 refine⟨h1,fun a ha=>(h2 a ha).trans ?_⟩
 have hc:(ce (repN N k t)).Perm (ce N):=(List.perm_ext_iff_of_nodup (g9 _) (g9 N)).2 fun x=>by
  rw[fi h6.ok,fi h.ok]
  exact and_congr (sX hk hl) Iff.rfl
 unfold valL
 rw[fW _ _ hc (g9 _)]
 refine bA _ _ fun b _=> ?_
 exact m5 _ ((pK (x:=t) hk).map _) b
theorem CN (h:Gen6 N) (hw:ar N.rg=wd) {k:Nat} (hk:k<N.ts.length) {t:Ten} (ht:Nat6 t) (hok:aA N.rg t.labels t.dims t.data=true) (hl:∀ x,x∈t.labels↔x∈N.ts[k].labels):
  bz wd (conR N.rg wd t (nvR (envN N wd k N.ts[k]) wd) N.os) N.os=nvR (repN N k t) wd:=by
 have hb:=ay.1 h.ok
 have hr:=hb.1
 have hmem:=List.getElem_mem hk
 have hT:=fO hw ht hok
 have hT0:=fO hw (h.six _ hmem) (hb.2.2.1 _ hmem)
 obtain⟨o1,o2⟩:=xa hr hw hT0
 have hE:=env6 h hw hk
 obtain⟨e1,e2'⟩:=nv6 hE hr hw
 have e2:∀ a:Asg,(∀ x∈aK N.os N.ts[k].labels,a x<d6 x)→elT (r:=N.rg) hr hw d6 (nvR (envN N wd k N.ts[k]) wd) a=valL (aH (r:=N.rg) hr hw) d6 ((N.ts.set k (dW N.rg wd N.ts[k])).map (elT (r:=N.rg) hr hw d6)) (ce (envN N wd k N.ts[k])) a:=e2'
 obtain⟨r1,r2⟩:=lW h hr hw hk ht hok hl
 obtain⟨c1,c2⟩:=qQ hr hw hT e1 N.os
 have hel:(nvR (envN N wd k N.ts[k]) wd).labels=aK N.os N.ts[k].labels:=rfl
 have hcL:∀ x,x∈conL t (nvR (envN N wd k N.ts[k]) wd)↔x∈N.os∨x∈N.ts[k].labels:=fun x=>by
  unfold conL
  rw[aX,hel,aX,hl]
  constructor
  ·rintro (h | h | h)
   ·exact .inr h
   ·exact .inl h
   ·exact .inr h
  ·rintro (h | h)
   ·exact .inr (.inl h)
   ·exact .inl h
 have hos:∀ x,x∈N.os↔x∈(conR N.rg wd t (nvR (envN N wd k N.ts[k]) wd) N.os).labels:=fun x=>by
  show _↔x∈(conL t (nvR (envN N wd k N.ts[k]) wd)).filter (has N.os)
  rw[List.mem_filter,ba,hcL]
  exact⟨fun hx=>⟨.inl hx,hx⟩,fun hx=>hx.2⟩
 have hX:∀ x,x∈conX t (nvR (envN N wd k N.ts[k]) wd) N.os↔x∈N.ts[k].labels∧x∉N.os:=fun x=>by
  unfold conX
  rw[List.mem_filter,Bool.not_eq_true',bH,hcL]
  constructor
  ·rintro⟨h1 | h1,h2⟩
   ·exact absurd h1 h2
   ·exact⟨h1,h2⟩
  ·exact fun⟨h1,h2⟩=>⟨.inr h1,h2⟩
 have hCE:∀ x,x∈ce (envN N wd k N.ts[k])↔(∃ u∈N.ts,x∈u.labels)∧x∉N.os∧x∉N.ts[k].labels:=fun x=>by
  rw[fi hE.ok]
  refine and_congr (sX (N:=N) hk (t:=dW N.rg wd N.ts[k]) fun _=>Iff.rfl) ?_
  show ¬ x∈aK N.os N.ts[k].labels↔_
  rw[aX,not_or]
 obtain⟨p1,p2⟩:=pr hr hw c1 (m6 h.ok) hos
 refine p9 hr hw p1 r1 rfl fun a ha=> ?_
 rw[p2 a ha,c2 a fun x hx=>ha x ((hos x).2 hx),r2 a ha]
 have s1:sumL (aH hr hw) d6 (conX t (nvR (envN N wd k N.ts[k]) wd) N.os) (fun b=>(aH hr hw).mul (elT hr hw d6 t b) (elT hr hw d6 (nvR (envN N wd k N.ts[k]) wd) b)) a=
   sumL (aH hr hw) d6 (conX t (nvR (envN N wd k N.ts[k]) wd) N.os) (sumL (aH hr hw) d6 (ce (envN N wd k N.ts[k])) (fun b=>(aH hr hw).mul (elT hr hw d6 t b) (prL (aH hr hw) ((N.ts.eraseIdx k).map (elT hr hw d6)) b))) a:=by
  refine bA _ _ fun b hb'=> ?_
  have hrange:∀ x,x∈N.os∨x∈N.ts[k].labels→b x<d6 x:=fun x hx=>by
   by_cases hxo:x∈N.os
   ·rw[hb'.1 x fun h'=>((hX x).1 h').2 hxo];exact ha x hxo
   ·exact hb'.2 x ((hX x).2 ⟨hx.elim (fun h'=>absurd h' hxo) id,hxo⟩)
  rw[e2 b fun x hx=>hrange x (aX.1 hx)]
  have hind:Ind (ce (envN N wd k N.ts[k])) (elT hr hw d6 t):=xx hr hw fun x hx hxt=>((hCE x).1 hx).2.2 ((hl x).1 hxt)
  rw[n4 _ _ hind]
  congr 1
  unfold valL
  refine bA _ _ fun b' hb2=> ?_
  have hpr:=m5 (aH hr hw) ((pK (x:=dW N.rg wd N.ts[k]) hk).map (elT hr hw d6)) b'
  refine Eq.trans hpr ?_
  rw[List.map_cons,prL,o2 b' fun x hx=> ?_,(aH hr hw).one_mul]
  rw[hb2.1 x fun h'=>((hCE x).1 h').2.2 hx]
  exact hrange x (.inr hx)
 rw[s1, ← jA]
 refine fW _ _ ((List.perm_ext_iff_of_nodup ?_ (g9 N)).2 fun x=> ?_) ?_ a
 ·exact List.nodup_append.2 ⟨(kK hT e1).filter _,g9 _,fun x hx y hy e=>by subst e;exact((hCE x).1 hy).2.2 ((hX x).1 hx).1⟩
 ·rw[List.mem_append,hX,hCE,fi h.ok]
  constructor
  ·rintro (⟨h1,h2⟩ | ⟨h1,h2,_⟩)
   ·exact⟨⟨_,hmem,h1⟩,h2⟩
   ·exact⟨h1,h2⟩
  ·rintro⟨h1,h2⟩
   by_cases h3:x∈N.ts[k].labels
   ·exact .inl ⟨h3,h2⟩
   ·exact .inr ⟨h1,h2,h3⟩
 ·exact List.nodup_append.2 ⟨(kK hT e1).filter _,g9 _,fun x hx y hy e=>by subst e;exact((hCE x).1 hy).2.2 ((hX x).1 hx).1⟩
theorem vD {f:List Int→List Int→List Int} {x y:List Int}:∀ {n k:Nat},(∀ i,i<n→(f (cutE x wd i) (cutE y wd i)).length=wd)→k<n→cutE (opP f x y wd n) wd k=f (cutE x wd k) (cutE y wd k)
 | 0,k,_,h=>by omega
 | n+1,k,hf,h=>by
  have hl:=iY (n:=n+1) hf n (by omega)
  unfold cutE at hl hf ⊢
  by_cases e:k=n
  ·subst e
   have h1:=hf k (by omega)
   rw[opP,List.drop_append_of_le_length (by omega),List.drop_of_length_le (by omega),List.nil_append]
   exact List.take_of_length_le (Nat.le_of_eq h1)
  ·have hk:k<n:=by omega
   have h2:=Nat.mul_le_mul_right wd (show k+1≤n from hk)
   rw[Nat.succ_mul]at h2
   have ih:=vD (f:=f) (x:=x) (y:=y) (n:=n) (fun i hi=>hf i (by omega)) hk
   unfold cutE at ih
   rw[opP,List.drop_append_of_le_length (by omega),List.take_append_of_le_length (by rw[List.length_drop];omega)]
   exact ih
def sumT (r:Rg) (wd:Nat) (t u:Ten):Ten:=⟨t.labels,t.dims,opP (addE r) t.data (bz wd u t.labels).data wd (ab t.dims).toNat⟩
theorem vN {r:Rg} (hr:aq r=true) (hw:ar r=wd) {dim:Int→Nat} {t u:Ten} (ht:TV r wd dim t) (hu:TV r wd dim u) (hl:∀ x,x∈t.labels↔x∈u.labels):TV r wd dim (sumT r wd t u)∧
  ∀ a:Asg,(∀ x∈t.labels,a x<dim x)→elT hr hw dim (sumT r wd t u) a=(aH hr hw).add (elT hr hw dim t a) (elT hr hw dim u a):=by
 obtain⟨p1,p2⟩:=pr hr hw hu ht.nd hl
 have hn:(ab t.dims).toNat=pN dim t.labels:=by rw[ht.dm,dC];rfl
 have hlp:(bz wd u t.labels).labels=t.labels:=rfl
 have hEl:∀ i,i<pN dim t.labels→El r wd (addE r (cutE t.data wd i) (cutE (bz wd u t.labels).data wd i)):=fun i hi=>(ht.el hi).add hr (p1.el hi)
 have hdat:(sumT r wd t u).data=opP (addE r) t.data (bz wd u t.labels).data wd (pN dim t.labels):=by
  show opP (addE r) t.data (bz wd u t.labels).data wd (ab t.dims).toNat=_
  rw[hn]
 have hlen:(sumT r wd t u).data.length=pN dim t.labels*wd:=by rw[hdat];exact iY (n:=pN dim t.labels) (fun i hi=>(hEl i hi).len) _ (Nat.le_refl _)
 have hcut:∀ i,i<pN dim t.labels→cutE (sumT r wd t u).data wd i=addE r (cutE t.data wd i) (cutE (bz wd u t.labels).data wd i):=fun i hi=>by
  rw[hdat]
  exact vD (fun i hi=>(hEl i hi).len) hi
 have hT:TV r wd dim (sumT r wd t u):=⟨ht.nd,ht.dm,ht.dp,hlen,iE hr hw hlen fun i hi=>by rw[hcut i hi];exact hEl i hi⟩
 refine⟨hT,fun a ha=>nV hr hw hT ha ?_⟩
 rw[← p2 a ha]
 show cutE (sumT r wd t u).data wd (offR dim t.labels a)=addE r (elT hr hw dim t a).val (elT hr hw dim (bz wd u t.labels) a).val
 rw[hcut _ (ei dim ha),fV hr hw ht ha,fV hr hw p1 ha]
 rfl
theorem Cb (h:Gen6 N) (hw:ar N.rg=wd) {k:Nat} (hk:k<N.ts.length) {t u:Ten} (ht:Nat6 t) (hokt:aA N.rg t.labels t.dims t.data=true) (hlt:∀ x,x∈t.labels↔x∈N.ts[k].labels)
  (hu:Nat6 u) (hoku:aA N.rg u.labels u.dims u.data=true) (hlu:∀ x,x∈u.labels↔x∈N.ts[k].labels)
  (hs:Nat6 (sumT N.rg wd t u)) (hoks:aA N.rg (sumT N.rg wd t u).labels (sumT N.rg wd t u).dims (sumT N.rg wd t u).data=true):
  sumT N.rg wd (nvR (repN N k t) wd) (nvR (repN N k u) wd)=nvR (repN N k (sumT N.rg wd t u)) wd:=by
 have hr:=(ay.1 h.ok).1
 have hT:=fO hw ht hokt
 have hU:=fO hw hu hoku
 obtain⟨t1,t2⟩:=lW h hr hw hk ht hokt hlt
 obtain⟨u1,u2⟩:=lW h hr hw hk hu hoku hlu
 obtain⟨s1,s2⟩:=lW h hr hw hk hs hoks hlt
 obtain⟨a1,a2⟩:=vN hr hw t1 u1 fun _=>Iff.rfl
 obtain⟨b1,b2⟩:=vN hr hw hT hU fun x=>(hlt x).trans (hlu x).symm
 refine p9 hr hw a1 s1 rfl fun a ha=> ?_
 rw[a2 a ha,t2 a ha,u2 a ha,s2 a ha, ← ui]
 refine bA _ _ fun b hb=> ?_
 have hrange:∀ x∈t.labels,b x<d6 x:=fun x hx=>by
  by_cases hxo:x∈N.os
  ·rw[hb.1 x fun h'=>((fi h.ok).1 h').2 hxo];exact ha x hxo
  ·exact hb.2 x ((fi h.ok).2 ⟨⟨_,List.getElem_mem hk,(hlt x).1 hx⟩,hxo⟩)
 rw[b2 b hrange,(aH hr hw).mul_comm,(aH hr hw).mul_comm (elT hr hw d6 u b),(aH hr hw).mul_comm ((aH hr hw).add _ _),(aH hr hw).mul_add]
end
end Go.Proofs.YtneocijmbnhblaaGreat.Sem
namespace Go.Proofs.YtneocijmbnhblaaGreat.Sem
open Plain
section
variable {r : Rg} {wd : Nat}
def L6 (L:List Int):Prop:=∀ x∈L,0≤x∧x<6
theorem xA (L:List Int):bQ d6 L=bK L:=List.map_congr_left fun x _=>B5 x
theorem Fz {L:List Int} (hn:L.Nodup) (h:L6 L):axOk L (bQ d6 L):=by
 have hl:=len6 hn h
 refine pz (by omega) (by simp [bQ]) hn (fun l hl=>by have:=h l hl;omega) fun d hd=> ?_
 rw[xA]at hd
 obtain⟨y,_,rfl⟩:=List.mem_map.1 hd
 have:=gY (x:=y)
 omega
theorem ni {L:List Int} (hn:L.Nodup) (h:L6 L):1≤ab (bQ d6 L)∧ab (bQ d6 L)≤729:=by
 rw[xA]
 exact⟨(ip L).1,x8 (len6 hn h)⟩
theorem z2 {L:List Int} (hn:L.Nodup) (h:L6 L):be L (bQ d6 L)=ab (bQ d6 L):=by
 have h1:=Fz hn h
 have h2:=ni hn h
 unfold be
 rw[if_pos ⟨h1,by omega⟩]
theorem lF {t:Ten} (hr:aq r=true) (hw:ar r=wd) (h:TV r wd d6 t) (h6:L6 t.labels):aA r t.labels t.dims t.data=true:=by
 have h1:=z2 h.nd h6
 have h2:=ni h.nd h6
 simp only[aA,hr,Bool.true_and,Bool.and_eq_true,decide_eq_true_eq,ju]
 refine⟨⟨by rw[h.dm,h1];omega, ?_⟩,h.fit⟩
 rw[h.dm,h1,h.len,dC,hw]
 push_cast
 rfl
theorem oc {t:Ten} (hr:aq r=true) (hw:ar r=wd) (h:TV r wd d6 t) (h6:L6 t.labels):TSz 1048576 t:=by
 have hl:=len6 h.nd h6
 have hp:=ni h.nd h6
 have hwd:=wd6 hr hw
 have htp:=dP hr
 rw[dC]at hp
 have hlen:t.data.length≤729*6:=by
  rw[h.len]
  exact Nat.mul_le_mul (by omega) hwd.2
 refine⟨⟨by omega,fun x hx=> ?_⟩,⟨?_,fun x hx=> ?_⟩,⟨by omega,fun x hx=> ?_⟩⟩
 ·have:=h6 x hx;unfold I64;omega
 ·rw[h.dm];simp [bQ];omega
 ·rw[h.dm,xA]at hx
  obtain⟨y,_,rfl⟩:=List.mem_map.1 hx
  have:=gY (x:=y)
  unfold I64;omega
 ·have:=eN h.fit x hx
  unfold I64;omega
theorem Bh {A B:Ten} (hr:aq r=true) (hw:ar r=wd) (hA:TV r wd d6 A) (hB:TV r wd d6 B) (a6:L6 A.labels) (b6:L6 B.labels) (keep:List Int):conB r A B keep=true∧conT r A B keep=conR r wd A B keep∧L6 (conK A B keep):=by
 have hn:=kK hA hB
 have h6:L6 (conL A B):=fun x hx=>(aX.1 hx).elim (a6 x) (b6 x)
 have hk6:L6 (conK A B keep):=fun x hx=>h6 x (List.mem_filter.1 hx).1
 have hkn:(conK A B keep).Nodup:=hn.filter _
 have h1:=ni hn h6
 have h2:=z2 hkn hk6
 have h3:=ni hkn hk6
 have hj:fP A B=true:=by
  unfold fP
  rw[List.all_eq_true]
  intro x hx
  rw[Bool.not_eq_true',Bool.and_eq_false_iff]
  by_cases ha:x∈A.labels
  ·by_cases hb:x∈B.labels
   ·right
    rw[hA.dimEq ha,hB.dimEq hb]
    simp
   ·left
    rw[Bool.and_eq_false_iff]
    exact .inr (bH.2 hb)
  ·left
   rw[Bool.and_eq_false_iff]
   exact .inl (bH.2 ha)
 have hc:conB r A B keep=true:=by
  simp only[conB,lF hr hw hA a6,lF hr hw hB b6,hj,Bool.true_and,Bool.and_eq_true,decide_eq_true_eq]
  rw[lh hA hB,sE hA hB keep,h2]
  omega
 refine⟨hc, ?_,hk6⟩
 unfold conT
 rw[hc,hw]
 rfl
end
section
variable {N : Net} {wd n : Nat} {F : List Int}
theorem xn (h:Gen6 N):L6 (aF N):=fun x hx=>by
 obtain⟨t,ht,hxt⟩:=(ny h.ok).1 hx
 exact(h.six t ht).bd x hxt
theorem tA6 (h:Gen6 N) (hok:cn N n F=true) (hw:ar N.rg=wd) {k i:Nat} (hk:k≤n) (hi:i<N.ts.length+k):TV N.rg wd d6 (tA N wd F k i)∧L6 (tA N wd F k i).labels∧(tA N wd F k i).labels=(ordS N F k).lab i:=by
 have hI:=invT hok hw k hk
 have e:=hI.lab i hi
 have hs:∀ x∈(tA N wd F k i).labels,x∈aF N:=fun x hx=>by rw[e]at hx;exact hI.sub i hi x hx
 exact⟨(hI.tv i hi).reDim fun x hx=>vB h (hs x hx),fun x hx=>xn h x (hs x hx),e⟩
end
end Go.Proofs.YtneocijmbnhblaaGreat.Sem
namespace Go.Proofs.YtneocijmbnhblaaGreat.Sem
open Plain
section
variable {r : Rg} {wd : Nat}
theorem zh {t:Ten} (h:TV r wd d6 t) (h6:L6 t.labels) (hl:t.labels.length≤3):Nat6 t:=⟨by rw[h.dm,xA],h.nd,h6,hl⟩
theorem lS {A B:List Int} (hA:A.Nodup) (hB:B.Nodup) (h:∀ x,x∈A↔x∈B):gM A B=true:=by
 have hp:A.Perm B:=(List.perm_ext_iff_of_nodup hA hB).2 h
 exact decide_eq_true ⟨hp.length_eq.symm,fun k hk=>⟨(h _).2 (List.getElem_mem hk),ec hB hk⟩⟩
theorem sum6 {t u:Ten} (hr:aq r=true) (hw:ar r=wd) (ht:TV r wd d6 t) (hu:TV r wd d6 u) (t6:L6 t.labels) (hl:∀ x,x∈t.labels↔x∈u.labels):alB r t u=true∧jt (addE r) r t u=sumT r wd t u:=by
 have u6:L6 u.labels:=fun x hx=>t6 x ((hl x).2 hx)
 have hd:aG u t.labels=t.dims:=by
  rw[ht.dm]
  exact List.map_congr_left fun x hx=>hu.dimEq ((hl x).1 hx)
 have ha:alB r t u=true:=by
  simp only[alB,alS,lF hr hw ht t6,lF hr hw hu u6,lS ht.nd hu.nd hl,hd,Bool.true_and,decide_true]
 refine⟨ha, ?_⟩
 unfold jt
 rw[ha]
 show (⟨t.labels,t.dims,opP (addE r) t.data (alT r t u).data (ar r).toNat (ab t.dims).toNat⟩:Ten)=_
 unfold alT sumT
 rw[hw]
 rfl
theorem Fh {u:Ten} (hr:aq r=true) (hw:ar r=wd) (hu:TV r wd d6 u) (u6:L6 u.labels) (hl3:u.labels.length≤3) {L:List Int} (hL:L.Perm u.labels):Nat6 (bz wd u L)∧aA r (bz wd u L).labels (bz wd u L).dims (bz wd u L).data=true∧(∀ x,x∈(bz wd u L).labels↔x∈u.labels)∧TV r wd d6 (bz wd u L):=by
 have hLn:L.Nodup:=hL.nodup_iff.2 hu.nd
 obtain⟨h1,_⟩:=pr hr hw hu hLn fun x=>hL.mem_iff
 have h6:L6 (bz wd u L).labels:=fun x hx=>u6 x (hL.mem_iff.1 hx)
 exact⟨zh h1 h6 (by show L.length≤3;rw[hL.length_eq];exact hl3),lF hr hw h1 h6,fun x=>hL.mem_iff,h1⟩
theorem BN {t u:Ten} (hr:aq r=true) (hw:ar r=wd) (ht:TV r wd d6 t) (hu:TV r wd d6 u) (t6:L6 t.labels) (hl3:t.labels.length≤3) (hl:∀ x,x∈t.labels↔x∈u.labels):Nat6 (sumT r wd t u)∧aA r (sumT r wd t u).labels (sumT r wd t u).dims (sumT r wd t u).data=true:=by
 obtain⟨h1,_⟩:=vN hr hw ht hu hl
 exact⟨zh h1 t6 hl3,lF hr hw h1 t6⟩
end
section
variable {N : Net} {wd : Nat}
theorem uz {k:Nat} (hk:k<N.ts.length):repN N k N.ts[k]=N:=by
 unfold repN
 rw[List.set_getElem_self]
theorem envs (h:Gen6 N) (hw:ar N.rg=wd) {k:Nat} (hk:k<N.ts.length) {t:Ten} (ht:Nat6 t) (hok:aA N.rg t.labels t.dims t.data=true) (hl:∀ x,x∈t.labels↔x∈N.ts[k].labels):
  alB N.rg t N.ts[k]=true∧Nat6 (sumT N.rg wd t N.ts[k])∧aA N.rg (sumT N.rg wd t N.ts[k]).labels (sumT N.rg wd t N.ts[k]).dims (sumT N.rg wd t N.ts[k]).data=true∧
  jt (addE N.rg) N.rg t N.ts[k]=sumT N.rg wd t N.ts[k]∧alB N.rg (nvR (repN N k t) wd) (nvR N wd)=true∧jt (addE N.rg) N.rg (nvR (repN N k t) wd) (nvR N wd)=nvR (repN N k (sumT N.rg wd t N.ts[k])) wd:=by
 have hb:=ay.1 h.ok
 have hr:=hb.1
 have hmem:=List.getElem_mem hk
 have h0:=h.six _ hmem
 have hok0:=hb.2.2.1 _ hmem
 have hT:=fO hw ht hok
 have hT0:=fO hw h0 hok0
 obtain⟨a1,a2⟩:=sum6 hr hw hT hT0 ht.bd hl
 obtain⟨b1,b2⟩:=BN hr hw hT hT0 ht.bd ht.len hl
 obtain⟨r1,_⟩:=lW h hr hw hk ht hok hl
 have r0:=(nv6 h hr hw).1
 have o6:L6 N.os:=fun x hx=>xn h x (ow h.ok x hx)
 obtain⟨c1,c2⟩:=sum6 hr hw r1 r0 o6 fun _=>Iff.rfl
 have e:=Cb h hw hk ht hok hl h0 hok0 (fun _=>Iff.rfl) b1 b2
 rw[uz hk]at e
 exact⟨a1,b1,b2,a2,c1,c2.trans e⟩
end
end Go.Proofs.YtneocijmbnhblaaGreat.Sem
namespace Go.Proofs.YtneocijmbnhblaaGreat
open Go.RowKit Go.Lift Plain
set_option maxRecDepth 100000
theorem mO {P:Program} {f:FuncId} {args:List AV} {t:Ten} {g0 g1 g2:Bool} (h:Does P f args [] (ownT 0 t) [some ⟨1,g0,iv t.labels⟩,some ⟨1,g1,iv t.dims⟩,some ⟨1,g2,iv t.data⟩]):Does P f args [] (tenA t) []:=by
 have tk:∀ xs:List Int,List.take xs.length (dv xs)=dv xs:=fun xs=>List.take_of_length_le (by rw[du];exact Nat.le_refl _)
 have h1:Wk 0 [ownT 0 t] [some ⟨1,g0,iv t.labels⟩,some ⟨1,g1,iv t.dims⟩,some ⟨1,g2,iv t.data⟩] [tenA t] [none,none,none]:=by
  refine(Wk.freeze 0 (R:=⟨1,g0,iv t.labels⟩) (ls:=dv t.labels) (Nat.le_refl _) rfl bP (e':=[.agg [.d (ints t.labels),.own 1 0 t.dims.length,.own 2 0 t.data.length]]) (σ':=[none,some ⟨1,g1,iv t.dims⟩,some ⟨1,g2,iv t.data⟩]) ?_ ?_).trans ?_
  ·simp [mapL,mapA,fzG,ownT,ints,tk]
  ·simp [frz,qF,fzG]
  refine(Wk.freeze 1 (R:=⟨1,g1,iv t.dims⟩) (ls:=dv t.dims) (Nat.zero_le _) rfl bP (e':=[.agg [.d (ints t.labels),.d (ints t.dims),.own 2 0 t.data.length]]) (σ':=[none,none,some ⟨1,g2,iv t.data⟩]) ?_ ?_).trans ?_
  ·simp [mapL,mapA,fzG,ints,tk]
  ·simp [frz,qF,fzG]
  refine Wk.freeze 2 (R:=⟨1,g2,iv t.data⟩) (ls:=dv t.data) (Nat.zero_le _) rfl bP ?_ ?_
  ·simp [mapL,mapA,fzG,ints,tk,tenA]
  ·simp [frz,qF,fzG]
 have h2:=h.wk0 h1
 have:at_ [none,none,none]=at_ []:=by
  funext k
  match k with
  | 0=>rfl
  | 1=>rfl
  | 2=>rfl
  | k+3=>simp [at_]
 unfold Does at*
 rw[this]at h2
 exact h2
theorem rM {kk pp nn:Int} {wd:Nat} (hr:aq ⟨kk,pp,nn⟩=true) (hw:ar ⟨kk,pp,nn⟩=wd) (h1:1≤wd∧wd≤6):Does Tryz.prog 32 [bn kk pp nn] [] (.own 0 0 wd) [some ⟨1,true,iv (oneE ⟨kk,pp,nn⟩ wd)⟩]:=by
 have hlr:(List.replicate wd (0:Int)).length=wd:=List.length_replicate
 (refine spec_of (by kernel_rfl) Tryz.func32 rp (fnOk (nb rfl) ?_);unfold C_impl_rawOne)
 (simp only[Nat.reduceSub,List.length_cons,List.length_nil,Nat.reduceAdd,am,al,aj,ai,ah,af,ae,ac];try simp only[au]);(simp only[go_sem,seval,reduceCtorEq,List.replicate])
 (refine aa (eZ kk pp nn) ?_ ?_ ?_;(focus (simp only[go_sem,seval,reduceCtorEq,hw];done));(first | rfl | (focus (simp only[go_sem];done))))
 simp(disch:=omega) only[go_sem,seval,reduceCtorEq,hw]
 refine And.intro ⟨by omega,by omega⟩ ?_
 by_cases h4:kk=4
 ·have c:(kk==4)=true:=by simp [h4]
  have e:oneE ⟨kk,pp,nn⟩ wd=(List.replicate wd 0).set 0 0:=by unfold oneE;rw[if_neg (by simp only;omega),if_pos h4]
  have e2:=fF h1.1 0
  simp(disch:=omega) only[go_sem,seval,reduceCtorEq,c]
  refine⟨by omega,by rw[hlr];omega, ?_⟩
  rw[e2, ← e]
  (refine FnEnd.mk (nb rfl) rfl (of_decide_eq_true rfl) ?_ ?_<;>try simp only[go_sem,seval,reduceCtorEq])
 have c4:(kk==4)=false:=by simp [h4]
 by_cases h5:kk=5
 ·have c:(kk==5)=true:=by simp [h5]
  have ht:top ⟨kk,pp,nn⟩=pp:=by simp [top,h5]
  have e:oneE ⟨kk,pp,nn⟩ wd=(List.replicate wd 0).set 0 pp:=by unfold oneE;rw[if_pos (.inl h5),ht]
  have e2:=fF h1.1 pp
  simp(disch:=omega) only[go_sem,seval,reduceCtorEq,c4,c]
  refine⟨by omega,by rw[hlr];omega, ?_⟩
  rw[e2, ← e]
  (refine FnEnd.mk (nb rfl) rfl (of_decide_eq_true rfl) ?_ ?_<;>try simp only[go_sem,seval,reduceCtorEq])
 have c5:(kk==5)=false:=by simp [h5]
 by_cases h6:kk=6
 ·have c:(kk==6)=true:=by simp [h6]
  have e:oneE ⟨kk,pp,nn⟩ wd=(List.replicate wd 0).set 0 (top ⟨kk,pp,nn⟩):=by unfold oneE;rw[if_pos (.inr h6)]
  have e2:=fF h1.1 (top ⟨kk,pp,nn⟩)
  simp(disch:=omega) only[go_sem,seval,reduceCtorEq,c4,c5,c]
  (refine aa (uF kk pp nn hr) ?_ ?_ ?_;(focus (simp only[go_sem,seval,reduceCtorEq];done));(first | rfl | (focus (simp only[go_sem];done))))
  simp(disch:=omega) only[go_sem,seval,reduceCtorEq]
  refine⟨by omega,by rw[hlr];omega, ?_⟩
  rw[e2, ← e]
  (refine FnEnd.mk (nb rfl) rfl (of_decide_eq_true rfl) ?_ ?_<;>try simp only[go_sem,seval,reduceCtorEq])
 have c6:(kk==6)=false:=by simp [h6]
 have e:oneE ⟨kk,pp,nn⟩ wd=(List.replicate wd 0).set 0 1:=by unfold oneE;rw[if_neg (fun h=>h.elim h5 h6),if_neg h4]
 have e2:=fF h1.1 1
 simp(disch:=omega) only[go_sem,seval,reduceCtorEq,c4,c5,c6]
 refine⟨by omega,by rw[hlr];omega, ?_⟩
 rw[e2, ← e]
 (refine FnEnd.mk (nb rfl) rfl (of_decide_eq_true rfl) ?_ ?_<;>try simp only[go_sem,seval,reduceCtorEq])
theorem oe {kk pp nn:Int} {wd:Nat} (hr:aq ⟨kk,pp,nn⟩=true) (hw:ar ⟨kk,pp,nn⟩=wd) (h1:1≤wd∧wd≤6):Does Tryz.prog 57 [bn kk pp nn] [] (tenA (Sem.dV ⟨kk,pp,nn⟩ wd)) []:=by
 have hol:=dF ⟨kk,pp,nn⟩ wd
 refine mO (g0:=true) (g1:=true) (g2:=true) ?_
 unfold Sem.dV
 simp only[ownT,hol]
 (refine spec_of (by kernel_rfl) Tryz.func57 nJ (fnOk (nb rfl) ?_);unfold C_impl_scalarOne)
 (simp only[Nat.reduceSub,List.length_cons,List.length_nil,Nat.reduceAdd,am,al,aj,ai,ah,af,ae,ac];try simp only[au]);(simp only[go_sem,seval,reduceCtorEq,List.replicate])
 (refine aa (rM hr hw h1) ?_ ?_ ?_;(focus (simp only[go_sem,seval,reduceCtorEq];done));(first | rfl | (focus (simp only[go_sem];done))))
 simp(disch:=omega) only[go_sem,seval,reduceCtorEq]
 refine FnEnd.wk (Wk.trans (Wk.nilS 1 0 1 _ _ _ rfl rfl) (Wk.nilS 1 1 1 _ _ _ rfl rfl)) ?_
 (refine FnEnd.mk (nb rfl) rfl (of_decide_eq_true rfl) ?_ ?_<;>try simp only[go_sem,seval,reduceCtorEq])
theorem Bd {kk pp nn:Int} {a b:Ten} {keep:List Int} {wd:Nat} (hr:aq ⟨kk,pp,nn⟩=true) (hw:ar ⟨kk,pp,nn⟩=wd) (ha:TSz 1048576 a) (hb:TSz 1048576 b) (hk:Sz 1048576 keep) (hc:conB ⟨kk,pp,nn⟩ a b keep=true):
  Does Tryz.prog 38 [bn kk pp nn,tenA a,tenA b,.d (ints keep)] [] (.tup [ownT 0 (conR ⟨kk,pp,nn⟩ wd a b keep),.d (.bool true)]) (stoF (conR ⟨kk,pp,nn⟩ wd a b keep)):=by
 obtain⟨k1,k2,k3⟩:=lV hr
 have h:=p6 k1 k2 k3 ha hb hk
 have e:conT ⟨kk,pp,nn⟩ a b keep=conR ⟨kk,pp,nn⟩ wd a b keep:=by
  unfold conT
  rw[hc,hw]
  rfl
 rw[e,hc]at h
 exact h
theorem Be {kk pp nn:Int} {a b:Ten} {keep:List Int} {wd:Nat} (hr:aq ⟨kk,pp,nn⟩=true) (hw:ar ⟨kk,pp,nn⟩=wd) (ha:TSz 1048576 a) (hb:TSz 1048576 b) (hk:Sz 1048576 keep) (hc:conB ⟨kk,pp,nn⟩ a b keep=true):
  Does Tryz.prog 38 [bn kk pp nn,tenA a,tenA b,.d (ints keep)] [] (.tup [tenA (conR ⟨kk,pp,nn⟩ wd a b keep),.d (.bool true)]) []:=iH (Bd hr hw ha hb hk hc)
theorem SumLabels_d {kk pp nn:Int} {t:Ten} {keep:List Int} {wd:Nat} (hr:aq ⟨kk,pp,nn⟩=true) (hw:ar ⟨kk,pp,nn⟩=wd) (ht:TSz 1048576 t) (hs:TSz 1048576 (Sem.dV ⟨kk,pp,nn⟩ wd)) (hk:Sz 1048576 keep) (hc:conB ⟨kk,pp,nn⟩ t (Sem.dV ⟨kk,pp,nn⟩ wd) keep=true):
  Does Tryz.prog 103 [bn kk pp nn,tenA t,.d (ints keep)] [] (tenA (conR ⟨kk,pp,nn⟩ wd t (Sem.dV ⟨kk,pp,nn⟩ wd) keep)) []:=by
 obtain⟨k1,k2,k3⟩:=lV hr
 have hok:aA ⟨kk,pp,nn⟩ t.labels t.dims t.data=true:=by
  simp only[conB,Bool.and_eq_true]at hc
  exact hc.1.1.1.1
 have hwb:=wd6 hr hw
 (refine spec_of (by kernel_rfl) Tryz.func103 nN (fnOk (nb rfl) ?_);unfold C_impl_SumLabels)
 (simp only[Nat.reduceSub,List.length_cons,List.length_nil,Nat.reduceAdd,am,al,aj,ai,ah,af,ae,ac];try simp only[au]);(simp only[go_sem,seval,reduceCtorEq,List.replicate])
 (refine aa (db (t:=t) k1 k2 k3 ht.up) ?_ ?_ ?_;(focus (simp only[go_sem,seval,reduceCtorEq];done));(first | rfl | (focus (simp only[go_sem];done))))
 simp only[go_sem,seval,reduceCtorEq,hok]
 (refine aC (oe hr hw hwb) ?_ ?_ ?_;(focus (simp only[go_sem,seval,reduceCtorEq];done));(first | rfl | (focus (simp only[go_sem];done))))
 simp only[go_sem,seval,reduceCtorEq]
 (refine aC (Be hr hw ht hs hk hc) ?_ ?_ ?_;(focus (simp only[go_sem,seval,reduceCtorEq];done));(first | rfl | (focus (simp only[go_sem];done))))
 simp only[go_sem,seval,reduceCtorEq]
 (refine FnEnd.mk (nb rfl) rfl (of_decide_eq_true rfl) ?_ ?_<;>try simp only[go_sem,seval,reduceCtorEq])
end Go.Proofs.YtneocijmbnhblaaGreat
