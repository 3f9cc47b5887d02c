/-
 The value of a network by its definition is the sum over its closed labels of the product of its tensors. No condition.
-/
import Derived.Test.YtneocijmbnhblaaGreatSemB
import Derived.Test.YtneocijmbnhblaaGreatOrdT
import Derived.Test.YtneocijmbnhblaaGreatPlD
set_option linter.unusedSimpArgs false
set_option linter.unusedVariables false
namespace Go.Proofs.YtneocijmbnhblaaGreat.Sem
open Plain
def dimF (N:Net):Int→Nat:=fun x=>(dimN N.ts x).toNat
def ar (N:Net):List Int:=bo (labP N.ts) 100
section
variable {N : Net} {wd : Nat}
theorem jo (h:bC N=true) (x:Int):(dimF N x:Int)=dimN N.ts x:=by
 have:=i9 (ct h) x
 unfold dimF
 omega
theorem BR (h:bC N=true) (hw:ah N.rg=wd) {t:Ten} (ht:t∈N.ts):TV N.rg wd (dimF N) t:=by
 have hok:=(an.1 h).2.2.1 t ht
 have hf:=dE hok
 have hax:=hf.2.1
 have hdm:t.dims=bP (dimF N) t.labels:=by
  apply List.ext_getElem
  ·simp [bP,hax.len]
  intro k h1 h2
  have hk:k<t.labels.length:=by rw[hax.len];exact h1
  have e1:=gS h ht (List.getElem_mem hk)
  have e2:=fT (t:=t) hax hk h1
  simp only[bP,List.getElem_map]
  rw[jo h, ← e1,e2]
 refine⟨cn hax,hdm,fun x hx=> ?_, ?_, ?_⟩
 ·have e1:=gS h ht hx
  have e2:=cR hax hx
  have e3:=jo h x
  omega
 ·have e:=hf.2.2.2.2.2
  rw[hdm,fJ,hw]at e
  exact_mod_cast e
 ·simp only[aD,Bool.and_eq_true,jC,decide_eq_true_eq]at hok
  exact hok.2
theorem eJ (h:bC N=true) {x:Int}:x∈ar N↔dimN N.ts x≠0:=vZ (ct h)
theorem gG (N:Net):(ar N).Nodup:=by
 unfold ar bo
 refine List.Pairwise.map _ (fun a b h=> ?_) (List.nodup_range.filter _)
 intro e
 exact h (by exact_mod_cast e)
theorem C3 (h:bC N=true):∀ x∈ar N,1≤dimF N x:=fun x hx=>by
 have h1:=(eJ h).1 hx
 have h2:=i9 (ct h) x
 have h3:=jo h x
 omega
theorem gg (h:bC N=true) {t:Ten} (ht:t∈N.ts) {x:Int} (hx:x∈t.labels):x∈ar N:=by
 have e1:=gS h ht hx
 have e2:=cR (ct h t ht) hx
 exact(eJ h).2 (by omega)
theorem Bx (h:bC N=true):axOk N.os (N.os.map (dimN N.ts)):=by
 have h0:=(an.1 h).2.2.2.2
 false_or_by_contra
 rename_i hc
 exact h0 (if_neg fun hc'=>hc hc'.1)
theorem yl (h:bC N=true):N.os.Nodup:=cn (Bx h)
theorem qn (h:bC N=true):∀ x∈N.os,x∈ar N:=fun x hx=>by
 have:=(Bx h).dim (dimN N.ts x) (List.mem_map.2 ⟨x,hx,rfl⟩)
 exact(eJ h).2 (by omega)
theorem DR (h:bC N=true):N.os.map (dimN N.ts)=bP (dimF N) N.os:=List.map_congr_left fun x _=>(jo h x).symm
def wgtI (N:Net) (wd:Nat) (k:Nat):List Int:=N.ts.foldl (fun acc t=>mulE N.rg acc (cutE t.data wd (bK t.labels t.dims (ar N) ((ar N).map (dimN N.ts)) k))) (oneE N.rg wd)
def nvO (N:Net) (k:Nat):Nat:=bK N.os (N.os.map (dimN N.ts)) (ar N) ((ar N).map (dimN N.ts)) k
def nvTo (N:Net) (wd:Nat) (z:List Int):Nat→List Int
 | 0=>z
 | k+1=>putE (nvTo N wd z k) (nvO N k*wd) (addE N.rg (((nvTo N wd z k).drop (nvO N k*wd)).take wd) (wgtI N wd k))
def nvR (N:Net) (wd:Nat):Ten:=
 ⟨N.os,N.os.map (dimN N.ts),nvTo N wd (repE (az N.rg.k N.rg.p wd) (dI (N.os.map (dimN N.ts)))) (dI ((ar N).map (dimN N.ts)))⟩
theorem yI {r:Rg} (hr:af r=true) (hw:ah r=wd) {c:Ten→List Int} {e:Ten→Asg→Elt r wd} {b:Asg}:∀ (ts:List Ten) (x:Elt r wd),(∀ t∈ts,(e t b).val=c t)→
  ts.foldl (fun acc t=>mulE r acc (c t)) x.val=((aM hr hw).mul x (prL (aM hr hw) (ts.map e) b)).val
 | [],x,_=>by
  show x.val=((aM hr hw).mul x (aM hr hw).one).val
  rw[(aM hr hw).mul_one]
 | t :: ts,x,h=>by
  have h1:=h t List.mem_cons_self
  have ih:=yI hr hw (c:=c) (e:=e) (b:=b) ts ((aM hr hw).mul x (e t b)) fun u hu=>h u (List.mem_cons_of_mem _ hu)
  rw[List.foldl_cons, ← h1]
  refine Eq.trans ih ?_
  rw[List.map_cons,prL,(aM hr hw).mul_assoc]
def eZ (N:Net):List Int:=(ar N).filter fun x=> !has N.os x
theorem zX (h:bC N=true):(ar N).Perm (eZ N++N.os):=by
 refine(List.perm_ext_iff_of_nodup (gG N) ?_).2 fun x=> ?_
 ·refine List.nodup_append.2 ⟨(gG N).filter _,yl h,fun x hx y hy e=> ?_⟩
  subst e
  have h1:=(List.mem_filter.1 hx).2
  rw[aY.2 hy]at h1
  cases h1
 ·rw[List.mem_append,eZ,List.mem_filter]
  constructor
  ·intro hx
   by_cases ho:x∈N.os
   ·exact .inr ho
   ·exact .inl ⟨hx,by rw[bT.2 ho];rfl⟩
  ·exact fun h'=>h'.elim (fun h'=>h'.1) (qn h x)
theorem BN (h:bC N=true) (hw:ah N.rg=wd):TV N.rg wd (dimF N) (nvR N wd)∧
  ∀ a:Asg,(∀ x∈N.os,a x<dimF N x)→elT (an.1 h).1 hw (dimF N) (nvR N wd) a=valL (aM (an.1 h).1 hw) (dimF N) (N.ts.map (elT (an.1 h).1 hw (dimF N))) (eZ N) a:=by
 have hr:=(an.1 h).1
 have hLn:=gG N
 have hLd:=C3 h
 have hon:=yl h
 have hoi:=qn h
 have hod:=DR h
 have hld:(ar N).map (dimN N.ts)=bP (dimF N) (ar N):=List.map_congr_left fun x _=>(jo h x).symm
 have hop:∀ x∈N.os,1≤dimF N x:=fun x hx=>hLd x (hoi x hx)
 have hasg:∀ (a:Asg) (i:Nat) x,x∈ar N→asgN (dimF N) a (ar N) i x<dimF N x:=fun a i x hx=>ig (dimF N) _ hLd a i x hx
 have hz:(az N.rg.k N.rg.p wd).length=wd:=bQ ..
 have hO:∀ (a:Asg) i,nvO N i=offR (dimF N) N.os (asgN (dimF N) a (ar N) i):=fun a i=>by
  unfold nvO
  rw[hod,hld,fp (dimF N) hLn hon hoi a i]
 have hacc:∀ a:Asg,∀ i,i≤pN (dimF N) (ar N)→(nvTo N wd (repE (az N.rg.k N.rg.p wd) (pN (dimF N) N.os)) i).length=pN (dimF N) N.os*wd∧
   ∀ k,k<pN (dimF N) N.os→cutE (nvTo N wd (repE (az N.rg.k N.rg.p wd) (pN (dimF N) N.os)) i) wd k=
    (sm (aM hr hw) (fun j=>if nvO N j=k then prL (aM hr hw) (N.ts.map (elT hr hw (dimF N))) (asgN (dimF N) a (ar N) j) else (aM hr hw).zero) i).val:=fun a=>by
  refine v4 hr hw (T:=fun i=>nvTo N wd (repE (az N.rg.k N.rg.p wd) (pN (dimF N) N.os)) i) ?_ ?_ ?_ ?_
  ·show (repE (az N.rg.k N.rg.p wd) (pN (dimF N) N.os)).length=_
   rw[ei,hz]
  ·intro k hk
   exact od hz hk
  ·intro i hi
   have e:(prL (aM hr hw) (N.ts.map (elT hr hw (dimF N))) (asgN (dimF N) a (ar N) i)).val=wgtI N wd i:=by
    have:=yI hr hw (c:=fun t=>cutE t.data wd (bK t.labels t.dims (ar N) ((ar N).map (dimN N.ts)) i)) (e:=elT hr hw (dimF N)) (b:=asgN (dimF N) a (ar N) i) N.ts (aM hr hw).one fun t ht=>by
     have hT:=BR h hw ht
     rw[jm hr hw hT fun x hx=>hasg a i x (gg h ht hx),hld,hT.dm,fp (dimF N) hLn hT.nd (fun x hx=>gg h ht hx) a i]
    rw[(aM hr hw).one_mul]at this
    exact this.symm
   rw[e]
   rfl
  ·intro i hi
   rw[hO a i]
   exact fB (dimF N) fun x hx=>hasg a i x (hoi x hx)
 have hdat:(nvR N wd).data=nvTo N wd (repE (az N.rg.k N.rg.p wd) (pN (dimF N) N.os)) (pN (dimF N) (ar N)):=by
  show nvTo N wd (repE (az N.rg.k N.rg.p wd) (dI (N.os.map (dimN N.ts)))) (dI ((ar N).map (dimN N.ts)))=_
  rw[hod,hld,j5,j5]
 have hlab:(nvR N wd).labels=N.os:=rfl
 have hT:TV N.rg wd (dimF N) (nvR N wd):=by
  refine⟨hon,hod,hop, ?_, ?_⟩
  ·rw[hdat,hlab];exact(hacc (fun _=>0) _ (Nat.le_refl _)).1
  ·rw[hdat]
   obtain⟨h1,h2⟩:=hacc (fun _=>0) _ (Nat.le_refl _)
   refine o4 hr hw h1 fun k hk=> ?_
   rw[h2 k hk]
   exact Subtype.property _
 refine⟨hT,fun a ha=> ?_⟩
 refine uM hr hw hT ha ?_
 rw[hdat,hlab,(hacc a _ (Nat.le_refl _)).2 _ (fB (dimF N) ha)]
 congr 1
 have e1:sm (aM hr hw) (fun j=>if nvO N j=offR (dimF N) N.os a then prL (aM hr hw) (N.ts.map (elT hr hw (dimF N))) (asgN (dimF N) a (ar N) j) else (aM hr hw).zero) (pN (dimF N) (ar N))=
   sm (aM hr hw) (fun j=>(fun b=>if agr N.os b a=true then prL (aM hr hw) (N.ts.map (elT hr hw (dimF N))) b else (aM hr hw).zero) (asgN (dimF N) a (ar N) j)) (pN (dimF N) (ar N)):=by
  refine cP _ fun j hj=> ?_
  have hiff:nvO N j=offR (dimF N) N.os a↔agr N.os (asgN (dimF N) a (ar N) j) a=true:=by
   rw[hO a j,ik]
   exact⟨fun e=>mh (dimF N) (fun x hx=>hasg a j x (hoi x hx)) ha e,fun e=>gC (dimF N) e⟩
  by_cases h:nvO N j=offR (dimF N) N.os a
  ·simp only[if_pos h,if_pos (hiff.1 h)]
  ·simp only[if_neg h,if_neg fun e=>h (hiff.2 e)]
 have e3:=x5 (aM hr hw) (dimF N) (fun b=>if agr N.os b a=true then prL (aM hr hw) (N.ts.map (elT hr hw (dimF N))) b else (aM hr hw).zero) (ar N) hLd a
 refine e1.trans (e3.trans ?_)
 rw[kH _ (dimF N) (zX h) hLn,lX]
 unfold valL
 refine cm _ (dimF N) fun a' ha'=> ?_
 have hdis:∀ x∈N.os,x∉eZ N:=fun x hx h'=>by
  have h2:=(List.mem_filter.1 h').2
  rw[aY.2 hx]at h2
  cases h2
 have haa:∀ x∈N.os,a' x=a x:=fun x hx=>ha'.1 x (hdis x hx)
 have e2:sumL (aM hr hw) (dimF N) N.os (fun b=>if agr N.os b a=true then prL (aM hr hw) (N.ts.map (elT hr hw (dimF N))) b else (aM hr hw).zero) a'=
   sumL (aM hr hw) (dimF N) N.os (fun b=>if agr N.os b a'=true then prL (aM hr hw) (N.ts.map (elT hr hw (dimF N))) b else (aM hr hw).zero) a':=by
  refine cm _ (dimF N) fun b _=> ?_
  have:agr N.os b a=agr N.os b a':=Bool.eq_iff_iff.2 (by
   rw[ik,ik]
   exact⟨fun h x hx=>(h x hx).trans (haa x hx).symm,fun h x hx=>(h x hx).trans (haa x hx)⟩)
  rw[this]
 rw[e2]
 refine q4 (aM hr hw) (dimF N) hon (fun x hx=>by rw[haa x hx];exact ha x hx) (fun b b' hb=> ?_) a' fun _ _=>rfl
 have:b=b':=funext hb
 rw[this]
end
end Go.Proofs.YtneocijmbnhblaaGreat.Sem
namespace Go.Proofs.YtneocijmbnhblaaGreat.Sem
open Plain
section
variable {N : Net} {wd n : Nat} {F : List Int}
def tA (N:Net) (wd:Nat) (F:List Int):Nat→Nat→Ten
 | 0,i=>N.ts.getD i ⟨[],[],[]⟩
 | k+1,i=>if i=N.ts.length+k then conR N.rg wd (tA N wd F k (stA F k)) (tA N wd F k (stB F k)) ((ordS N F k).res N.os (stA F k) (stB F k)) else tA N wd F k i
def occ (s:Osd) (x:Int):Bool:=s.nums.any fun i=>has (s.lab i) x
theorem yq {s:Osd} {x:Int}:occ s x=true↔∃ i,i∈s.nums∧x∈s.lab i:=by
 simp [occ,aY]
def Rk (N:Net) (F:List Int) (k:Nat):List Int:=(eZ N).filter (occ (ordS N F k))
theorem nw {x:Int} {k:Nat}:x∈Rk N F k↔(x∈ar N∧x∉N.os)∧∃ i,i∈(ordS N F k).nums∧x∈(ordS N F k).lab i:=by
 unfold Rk eZ
 rw[List.mem_filter,List.mem_filter,yq]
 simp only[Bool.not_eq_true',bT]
theorem Rk_nd (k:Nat):(Rk N F k).Nodup:=((gG N).filter _).filter _
structure InvT (N:Net) (wd:Nat) (F:List Int) (h:bC N=true) (hw:ah N.rg=wd) (k:Nat):Prop where
 tv:∀ i,i<N.ts.length+k→TV N.rg wd (dimF N) (tA N wd F k i)
 lab:∀ i,i<N.ts.length+k→(tA N wd F k i).labels=(ordS N F k).lab i
 sub:∀ i,i<N.ts.length+k→∀ x∈(ordS N F k).lab i,x∈ar N
 len:(ordS N F k).nums.length+k=N.ts.length
 val:∀ a:Asg,(∀ x∈N.os,a x<dimF N x)→valL (aM (an.1 h).1 hw) (dimF N) ((ordS N F k).nums.map fun i=>elT (an.1 h).1 hw (dimF N) (tA N wd F k i)) (Rk N F k) a=
  valL (aM (an.1 h).1 hw) (dimF N) (N.ts.map (elT (an.1 h).1 hw (dimF N))) (eZ N) a
theorem gf (ts:List Ten):(aq ts).nums=List.range ts.length:=by
 unfold Osd.nums
 have:(aq ts).all.length=ts.length:=by simp [aq]
 rw[this]
 refine List.filter_eq_self.2 fun i hi=> ?_
 have hi':=List.mem_range.1 hi
 simp [Osd.alive,aq,zq,hi']
theorem qE {ts:List Ten} {i:Nat} (hi:i<ts.length):(aq ts).lab i=(ts.getD i ⟨[],[],[]⟩).labels:=by
 simp [Osd.lab,aq,zq,hi]
theorem Ab (h:bC N=true) (hw:ah N.rg=wd):InvT N wd F h hw 0:=by
 have hmem:∀ i,i<N.ts.length→N.ts.getD i ⟨[],[],[]⟩∈N.ts:=fun i hi=>by
  rw[zq,zg hi]
  exact List.getElem_mem hi
 have hnums:(ordS N F 0).nums=List.range N.ts.length:=gf N.ts
 have hlab:∀ i,i<N.ts.length→(ordS N F 0).lab i=(N.ts.getD i ⟨[],[],[]⟩).labels:=fun i hi=>qE hi
 refine⟨fun i hi=>BR h hw (hmem i hi),fun i hi=>(hlab i hi).symm,fun i hi x hx=> ?_,by rw[hnums];simp,fun a _=> ?_⟩
 ·rw[hlab i hi]at hx
  exact gg h (hmem i hi) hx
 ·have e1:((ordS N F 0).nums.map fun i=>elT (an.1 h).1 hw (dimF N) (tA N wd F 0 i))=N.ts.map (elT (an.1 h).1 hw (dimF N)):=by
   rw[hnums]
   apply List.ext_getElem
   ·simp
   intro i h1 h2
   have hi:i<N.ts.length:=by simpa using h1
   simp [tA,zq,hi]
  have e2:Rk N F 0=eZ N:=List.filter_eq_self.2 fun x hx=>by
   obtain⟨hx1,_⟩:=List.mem_filter.1 hx
   obtain⟨t,ht,hxt⟩:=jY ((eJ h).1 hx1)
   obtain⟨i,hi,rfl⟩:=List.getElem_of_mem ht
   refine yq.2 ⟨i, ?_, ?_⟩
   ·rw[hnums];exact List.mem_range.2 hi
   ·rw[hlab i hi,zq,zg hi];exact hxt
  rw[e1,e2]
theorem nq {l:List Nat} (hn:l.Nodup) {a b:Nat} (ha:a∈l) (hb:b∈l) (hne:a≠b):l.Perm (a :: b :: l.filter (Osd.off a b)):=by
 refine(List.perm_ext_iff_of_nodup hn ?_).2 fun x=> ?_
 ·refine List.nodup_cons.2 ⟨?_,List.nodup_cons.2 ⟨?_,hn.filter _⟩⟩
  ·rw[List.mem_cons,List.mem_filter]
   rintro (e | ⟨_,e⟩)
   ·exact hne e
   ·simp [Osd.off]at e
  ·rw[List.mem_filter]
   rintro⟨_,e⟩
   simp [Osd.off]at e
 ·rw[List.mem_cons,List.mem_cons,List.mem_filter]
  constructor
  ·intro hx
   by_cases e1:x=a
   ·exact .inl e1
   by_cases e2:x=b
   ·exact .inr (.inl e2)
   ·exact .inr (.inr ⟨hx,by simp [Osd.off,e1,e2]⟩)
  ·rintro (e | e | ⟨e,_⟩)
   ·rw[e];exact ha
   ·rw[e];exact hb
   ·exact e
theorem FJ {a b i:Nat} (h:Osd.off a b i=true):i≠a∧i≠b:=by simpa [Osd.off]using h
theorem Ac (hok:am N n F=true) (hw:ah N.rg=wd) {k:Nat} (hk:k<n) (hI:InvT N wd F (ao.1 hok).1 hw k):InvT N wd F (ao.1 hok).1 hw (k+1):=by
 have h:=(ao.1 hok).1
 have hr:=(an.1 h).1
 have hs:=cl hok hk
 have ho:=(cQ hok k (by omega)).ok
 have hab:=hs.at (cQ hok k (by omega))
 have hne:stA F k≠stB F k:=by have:=hs.lt;omega
 have tvA:=hI.tv _ hab.1
 have tvB:=hI.tv _ hab.2
 have lA:=hI.lab _ hab.1
 have lB:=hI.lab _ hab.2
 obtain⟨tvR,elR⟩:=xP hr hw tvA tvB ((ordS N F k).res N.os (stA F k) (stB F k))
 have hnums:(ordS N F (k+1)).nums=(ordS N F k).nums.filter (Osd.off (stA F k) (stB F k))++[N.ts.length+k]:=by rw[hs.nx];exact d8 ho
 have hlabO:∀ i,i<N.ts.length+k→(ordS N F (k+1)).lab i=(ordS N F k).lab i:=fun i hi=>by rw[hs.nx];exact jX ho hi
 have hlabN:(ordS N F (k+1)).lab (N.ts.length+k)=(ordS N F k).res N.os (stA F k) (stB F k):=by rw[hs.nx];exact dU ho
 have hperm:=nq (bR (ordS N F k)) hs.ma hs.mb hne
 have hcl:conL (tA N wd F k (stA F k)) (tA N wd F k (stB F k))=aB ((ordS N F k).lab (stA F k)) ((ordS N F k).lab (stB F k)):=by unfold conL;rw[lA,lB]
 have hres:∀ x,x∈(ordS N F k).res N.os (stA F k) (stB F k)↔x∈conL (tA N wd F k (stA F k)) (tA N wd F k (stB F k))∧(x∈N.os∨∃ i,i∈(ordS N F k).nums∧Osd.off (stA F k) (stB F k) i=true∧x∈(ordS N F k).lab i):=fun x=>by
  unfold Osd.res
  rw[List.mem_filter,aY,hcl,Osd.keep,List.mem_append,List.mem_flatMap]
  refine and_congr Iff.rfl (or_congr Iff.rfl ⟨fun⟨i,h1,h2⟩=> ?_,fun⟨i,h1,h2,h3⟩=> ?_⟩)
  ·obtain⟨h3,h4⟩:=List.mem_filter.1 h1
   exact⟨i,h3,h4,h2⟩
  ·exact⟨i,List.mem_filter.2 ⟨h1,h2⟩,h3⟩
 have hK:conK (tA N wd F k (stA F k)) (tA N wd F k (stB F k)) ((ordS N F k).res N.os (stA F k) (stB F k))=(ordS N F k).res N.os (stA F k) (stB F k):=by
  have e:(ordS N F k).res N.os (stA F k) (stB F k)=(conL (tA N wd F k (stA F k)) (tA N wd F k (stB F k))).filter (has ((ordS N F k).keep N.os (stA F k) (stB F k))):=by rw[hcl];rfl
  unfold conK
  refine Eq.trans (List.filter_congr fun x hx=> ?_) e.symm
  rw[Bool.eq_iff_iff,aY,e,List.mem_filter]
  exact⟨fun h=>h.2,fun h=>⟨hx,h⟩⟩
 have hX:∀ x,x∈conX (tA N wd F k (stA F k)) (tA N wd F k (stB F k)) ((ordS N F k).res N.os (stA F k) (stB F k))↔x∈conL (tA N wd F k (stA F k)) (tA N wd F k (stB F k))∧x∉(ordS N F k).res N.os (stA F k) (stB F k):=fun x=>by
  unfold conX
  rw[List.mem_filter,Bool.not_eq_true',bT]
 have hL:∀ x,x∈conL (tA N wd F k (stA F k)) (tA N wd F k (stB F k))↔x∈(ordS N F k).lab (stA F k)∨x∈(ordS N F k).lab (stB F k):=fun x=>by rw[hcl];exact bb
 have hLs:∀ x,x∈conL (tA N wd F k (stA F k)) (tA N wd F k (stB F k))→x∈ar N:=fun x hx=>((hL x).1 hx).elim (hI.sub _ hab.1 x) (hI.sub _ hab.2 x)
 have hlt:∀ i,i∈(ordS N F k).nums→i<N.ts.length+k:=fun i hi=>by have:=(em.1 hi).1;rw[ho.n]at this;exact this
 have hto:∀ i,i<N.ts.length+k→tA N wd F (k+1) i=tA N wd F k i:=fun i hi=>by rw[tA,if_neg (by omega)]
 have htn:tA N wd F (k+1) (N.ts.length+k)=conR N.rg wd (tA N wd F k (stA F k)) (tA N wd F k (stB F k)) ((ordS N F k).res N.os (stA F k) (stB F k)):=by rw[tA,if_pos rfl]
 refine⟨fun i hi=> ?_,fun i hi=> ?_,fun i hi x hx=> ?_, ?_,fun a ha=> ?_⟩
 ·by_cases e:i=N.ts.length+k
  ·rw[e,htn];exact tvR
  ·rw[hto i (by omega)];exact hI.tv i (by omega)
 ·by_cases e:i=N.ts.length+k
  ·rw[e,htn,hlabN];exact hK
  ·rw[hto i (by omega),hlabO i (by omega)];exact hI.lab i (by omega)
 ·by_cases e:i=N.ts.length+k
  ·rw[e,hlabN]at hx
   exact hLs x ((hres x).1 hx).1
  ·rw[hlabO i (by omega)]at hx
   exact hI.sub i (by omega) x hx
 ·have h1:=hperm.length_eq
  have h2:=hI.len
  rw[Zl,Zl]at h1
  rw[hnums,List.length_append,List.length_singleton]
  omega
 ·rw[← hI.val a ha]
  have e1:((ordS N F (k+1)).nums.map fun i=>elT hr hw (dimF N) (tA N wd F (k+1) i)).Perm
    (elT hr hw (dimF N) (conR N.rg wd (tA N wd F k (stA F k)) (tA N wd F k (stB F k)) ((ordS N F k).res N.os (stA F k) (stB F k))) :: ((ordS N F k).nums.filter (Osd.off (stA F k) (stB F k))).map fun i=>elT hr hw (dimF N) (tA N wd F k i)):=by
   rw[hnums,List.map_append,List.map_cons,List.map_nil,htn]
   have:(((ordS N F k).nums.filter (Osd.off (stA F k) (stB F k))).map fun i=>elT hr hw (dimF N) (tA N wd F (k+1) i))=((ordS N F k).nums.filter (Osd.off (stA F k) (stB F k))).map fun i=>elT hr hw (dimF N) (tA N wd F k i):=
    List.map_congr_left fun i hi=>by rw[hto i (hlt i (List.mem_filter.1 hi).1)]
   rw[this]
   exact List.perm_append_comm
  have e2:valL (aM hr hw) (dimF N) ((ordS N F (k+1)).nums.map fun i=>elT hr hw (dimF N) (tA N wd F (k+1) i)) (Rk N F (k+1)) a=
    valL (aM hr hw) (dimF N) (elT hr hw (dimF N) (conR N.rg wd (tA N wd F k (stA F k)) (tA N wd F k (stB F k)) ((ordS N F k).res N.os (stA F k) (stB F k))) :: ((ordS N F k).nums.filter (Osd.off (stA F k) (stB F k))).map fun i=>elT hr hw (dimF N) (tA N wd F k i)) (Rk N F (k+1)) a:=
   cm _ _ fun a' _=>vM _ e1 a'
  refine e2.trans (z4 (aM hr hw) (dimF N) (t:=elT hr hw (dimF N) (tA N wd F k (stA F k))) (u:=elT hr hw (dimF N) (tA N wd F k (stB F k))) (drop:=conX (tA N wd F k (stA F k)) (tA N wd F k (stB F k)) ((ordS N F k).res N.os (stA F k) (stB F k))) ?_ ?_ (Rk_nd k) ?_ a ?_).symm
  ·exact hperm.map _
  ·refine(List.perm_ext_iff_of_nodup (Rk_nd k) ?_).2 fun x=> ?_
   ·refine List.nodup_append.2 ⟨Rk_nd _,(pP tvA tvB).filter _,fun x hx y hy e=> ?_⟩
    subst e
    obtain⟨_,i,hi,hxi⟩:=nw.1 hx
    obtain⟨hy1,hy2⟩:=(hX x).1 hy
    rw[hnums,List.mem_append,List.mem_singleton]at hi
    rcases hi with hi | hi
    ·obtain⟨h3,h4⟩:=List.mem_filter.1 hi
     rw[hlabO i (hlt i h3)]at hxi
     exact hy2 ((hres x).2 ⟨hy1,.inr ⟨i,h3,h4,hxi⟩⟩)
    ·rw[hi,hlabN]at hxi
     exact hy2 hxi
   ·rw[List.mem_append,nw,nw,hX]
    constructor
    ·rintro⟨hc,i,hi,hxi⟩
     by_cases hoff:Osd.off (stA F k) (stB F k) i=true
     ·refine .inl ⟨hc,i, ?_,by rw[hlabO i (hlt i hi)];exact hxi⟩
      rw[hnums]
      exact List.mem_append_left _ (List.mem_filter.2 ⟨hi,hoff⟩)
     ·have hj:x∈conL (tA N wd F k (stA F k)) (tA N wd F k (stB F k)):=by
       rw[hL]
       by_cases ea:i=stA F k
       ·rw[ea]at hxi;exact .inl hxi
       by_cases eb:i=stB F k
       ·rw[eb]at hxi;exact .inr hxi
       ·exact absurd (by simp [Osd.off,ea,eb]) hoff
      by_cases hxr:x∈(ordS N F k).res N.os (stA F k) (stB F k)
      ·refine .inl ⟨hc,N.ts.length+k, ?_,by rw[hlabN];exact hxr⟩
       rw[hnums]
       exact List.mem_append_right _ (List.mem_singleton.2 rfl)
      ·exact .inr ⟨hj,hxr⟩
    ·rintro (⟨hc,i,hi,hxi⟩ | ⟨hj,hxr⟩)
     ·rw[hnums,List.mem_append,List.mem_singleton]at hi
      rcases hi with hi | hi
      ·obtain⟨h3,h4⟩:=List.mem_filter.1 hi
       rw[hlabO i (hlt i h3)]at hxi
       exact⟨hc,i,h3,hxi⟩
      ·rw[hi,hlabN]at hxi
       rcases(hL x).1 ((hres x).1 hxi).1 with h3 | h3
       ·exact⟨hc,_,hs.ma,h3⟩
       ·exact⟨hc,_,hs.mb,h3⟩
     ·refine⟨⟨hLs x hj,fun hx=>hxr ((hres x).2 ⟨hj,.inl hx⟩)⟩, ?_⟩
      rcases(hL x).1 hj with h3 | h3
      ·exact⟨_,hs.ma,h3⟩
      ·exact⟨_,hs.mb,h3⟩
  ·intro s hs'
   obtain⟨i,hi,rfl⟩:=List.mem_map.1 hs'
   obtain⟨h3,h4⟩:=List.mem_filter.1 hi
   refine Eo hr hw fun x hx hxl=> ?_
   obtain⟨hy1,hy2⟩:=(hX x).1 hx
   rw[hI.lab i (hlt i h3)]at hxl
   exact hy2 ((hres x).2 ⟨hy1,.inr ⟨i,h3,h4,hxl⟩⟩)
  ·intro a' ha'
   refine elR a' fun x hx=> ?_
   rw[hK]at hx
   by_cases hxo:x∈N.os
   ·rw[ha'.1 x fun h'=>(nw.1 h').1.2 hxo]
    exact ha x hxo
   ·refine ha'.2 x (nw.2 ⟨⟨hLs x ((hres x).1 hx).1,hxo⟩,N.ts.length+k, ?_,by rw[hlabN];exact hx⟩)
    rw[hnums]
    exact List.mem_append_right _ (List.mem_singleton.2 rfl)
theorem invT (hok:am N n F=true) (hw:ah N.rg=wd):∀ k,k≤n→InvT N wd F (ao.1 hok).1 hw k
 | 0,_=>Ab _ hw
 | k+1,hk=>Ac hok hw (by omega) (invT hok hw k (by omega))
end
end Go.Proofs.YtneocijmbnhblaaGreat.Sem
namespace Go.Proofs.YtneocijmbnhblaaGreat.Sem
open Plain
section
variable {r : Rg} {wd : Nat} (hr : af r = true) (hw : ah r = wd) {dim : Int → Nat}
def eh (r:Rg) (wd:Nat):Ten:=⟨[],[],oneE r wd⟩
include hr hw in
theorem m7:TV r wd dim (eh r wd):=by
 refine⟨List.nodup_nil,rfl,fun x hx=>(by cases hx), ?_,(El.unit hr hw).fit⟩
 show (oneE r wd).length=1*wd
 rw[fN,Nat.one_mul]
theorem y8 (a:Asg):elT hr hw dim (eh r wd) a=(aM hr hw).one:=
 uM hr hw (m7 hr hw) (fun x hx=>by cases hx) (by
  show cutE (oneE r wd) wd 0=oneE r wd
  unfold cutE
  rw[Nat.zero_mul,List.drop_zero]
  exact zt (by rw[fN];exact Nat.le_refl _))
theorem tM {src:List Int} {f:Nat→Nat} {n0:Nat} (hs:src.length=n0*wd):∀ {n k:Nat},(∀ i,i<n→f i<n0)→k<n→cutE (gath src wd f n) wd k=cutE src wd (f k)
 | 0,k,_,h=>by omega
 | n+1,k,hf,h=>by
  have hb:∀ i,i<n+1→f i*wd+wd≤src.length:=fun i hi=>by
   have:=Nat.mul_le_mul_right wd (show f i+1≤n0 from hf i hi)
   rw[Nat.succ_mul]at this
   omega
  have hl:(gath src wd f n).length=n*wd:=ki fun i hi=>hb i (by omega)
  unfold cutE
  by_cases e:k=n
  ·subst e
   rw[gath,List.drop_append_of_le_length (by omega),List.drop_of_length_le (by omega),List.nil_append,zt (by rw[List.length_take];omega)]
  ·have hk:k<n:=by omega
   have h2:=Nat.mul_le_mul_right wd (show k+1≤n from hk)
   rw[Nat.succ_mul]at h2
   have ih:=tM hs (f:=f) (fun i hi=>hf i (by omega)) hk
   unfold cutE at ih
   rw[gath,List.drop_append_of_le_length (by omega),List.take_append_of_le_length (by rw[List.length_drop];omega)]
   exact ih
theorem DP {t:Ten} (h:TV r wd dim t) {L:List Int} (hL:L.Nodup) (hs:∀ x,x∈L↔x∈t.labels):TV r wd dim (fK wd t L)∧∀ a:Asg,(∀ x∈L,a x<dim x)→elT hr hw dim (fK wd t L) a=elT hr hw dim t a:=by
 have hd:aV t L=bP dim L:=List.map_congr_left fun x hx=>h.dimEq ((hs x).1 hx)
 have hdp:∀ x∈L,1≤dim x:=fun x hx=>h.dp x ((hs x).1 hx)
 have hoff:∀ (a:Asg) i,cw t L i=offR dim t.labels (asgN dim a L i):=fun a i=>by
  show bK t.labels t.dims L (aV t L) i=_
  rw[hd,h.dm,fp dim hL h.nd (fun x hx=>(hs x).2 hx) a i]
 have hlt:∀ i,cw t L i<pN dim t.labels:=fun i=>by
  rw[hoff (fun _=>0) i]
  exact fB dim fun x hx=>ig dim L hdp _ i x ((hs x).2 hx)
 have hn:jw t L=pN dim L:=by
  unfold jw
  rw[hd,fJ];rfl
 have hdat:(fK wd t L).data=gath t.data wd (cw t L) (pN dim L):=by
  show gath t.data wd (cw t L) (jw t L)=_
  rw[hn]
 have hcut:∀ k,k<pN dim L→cutE (fK wd t L).data wd k=cutE t.data wd (cw t L k):=fun k hk=>by
  rw[hdat]
  exact tM h.len (fun i _=>hlt i) hk
 have hlen:(fK wd t L).data.length=pN dim L*wd:=by
  rw[hdat]
  refine ki fun i _=> ?_
  have:=Nat.mul_le_mul_right wd (show cw t L i+1≤pN dim t.labels from hlt i)
  rw[Nat.succ_mul]at this
  rw[h.len];omega
 have hT:TV r wd dim (fK wd t L):=⟨hL,hd,hdp,hlen,o4 hr hw hlen fun k hk=>by rw[hcut k hk];exact h.el (hlt k)⟩
 refine⟨hT,fun a ha=>uM hr hw hT ha ?_⟩
 have hk:offR dim L a<pN dim L:=fB dim ha
 have hag:∀ x∈L,asgN dim a L (offR dim L a) x=a x:=mh dim (fun x hx=>ig dim L hdp a _ x hx) ha (qr dim L hL hdp a _ hk)
 rw[jm hr hw h fun x hx=>ha x ((hs x).2 hx)]
 show cutE (fK wd t L).data wd (offR dim L a)=_
 rw[hcut _ hk,hoff a,gC dim fun x hx=>hag x ((hs x).2 hx)]
theorem xX {t u:Ten} (ht:TV r wd dim t) (hu:TV r wd dim u) (hl:t.labels=u.labels) (h:∀ a:Asg,(∀ x∈t.labels,a x<dim x)→elT hr hw dim t a=elT hr hw dim u a):t=u:=by
 have hd:t.dims=u.dims:=by rw[ht.dm,hu.dm,hl]
 have hlt:=ht.len
 have hlu:=hu.len
 rw[← hl]at hlu
 have hwd:=wd6 hr hw
 have hc:∀ k,k<pN dim t.labels→cutE t.data wd k=cutE u.data wd k:=fun k hk=>by
  have h1:=h (asgN dim (fun _=>0) t.labels k) fun x hx=>ig dim _ ht.dp _ k x hx
  have h2:=congrArg Subtype.val h1
  rw[jm hr hw ht (fun x hx=>ig dim _ ht.dp _ k x hx),jm hr hw hu (fun x hx=>by rw[← hl]at hx;exact ig dim _ ht.dp _ k x hx), ← hl,qr dim _ ht.nd ht.dp _ k hk]at h2
  exact h2
 have hdat:t.data=u.data:=by
  refine eX hlt hlu fun i hi=> ?_
  have hq:i / wd<pN dim t.labels:=Nat.div_lt_of_lt_mul (by rw[Nat.mul_comm];exact hi)
  have hm:=Nat.mod_lt i (show 0<wd by omega)
  have hdm:=Nat.div_add_mod i wd
  rw[Nat.mul_comm]at hdm
  have e:∀ xs:List Int,(cutE xs wd (i / wd)).getD (i % wd) 0=xs.getD i 0:=fun xs=>by
   unfold cutE
   rw[zq,zq,List.getElem?_take,if_pos hm,List.getElem?_drop,hdm]
  rw[← e t.data, ← e u.data,hc _ hq]
 obtain⟨l1,d1,x1⟩:=t
 obtain⟨l2,d2,x2⟩:=u
 simp only at hl hd hdat
 rw[hl,hd,hdat]
def finT (r:Rg) (wd:Nat) (t:Ten) (os:List Int):Ten:=fK wd (conR r wd t (eh r wd) os) os
theorem Gb {t:Ten} (h:TV r wd dim t) {os:List Int} (ho:os.Nodup) (hs:∀ x∈os,x∈t.labels):TV r wd dim (finT r wd t os)∧
  ∀ a:Asg,(∀ x∈os,a x<dim x)→elT hr hw dim (finT r wd t os) a=sumL (aM hr hw) dim (t.labels.filter fun x=> !has os x) (elT hr hw dim t) a:=by
 obtain⟨h1,h2⟩:=xP hr hw h (m7 hr hw (dim:=dim)) os
 have hcl:conL t (eh r wd)=t.labels:=by
  show t.labels++([]:List Int).filter _=t.labels
  simp
 have hK:∀ x,x∈os↔x∈(conR r wd t (eh r wd) os).labels:=fun x=>by
  show x∈os↔x∈(conL t (eh r wd)).filter (has os)
  rw[hcl,List.mem_filter,aY]
  exact⟨fun hx=>⟨hs x hx,hx⟩,fun hx=>hx.2⟩
 obtain⟨h3,h4⟩:=DP hr hw h1 ho hK
 refine⟨h3,fun a ha=>(h4 a ha).trans ((h2 a fun x hx=>ha x ((hK x).2 hx)).trans ?_)⟩
 have hX:conX t (eh r wd) os=t.labels.filter fun x=> !has os x:=by unfold conX;rw[hcl]
 rw[hX]
 refine cm _ dim fun b _=> ?_
 rw[y8,(aM hr hw).mul_one]
end
section
variable {N : Net} {wd n : Nat} {F : List Int}
theorem oE (hok:am N n F=true) (hw:ah N.rg=wd) (hm:0<N.ts.length):TV N.rg wd (dimF N) (tA N wd F n (N.ts.length+n-1))∧(∀ x∈N.os,x∈(tA N wd F n (N.ts.length+n-1)).labels)∧
  (ordS N F n).nums=[N.ts.length+n-1]∧finT N.rg wd (tA N wd F n (N.ts.length+n-1)) N.os=nvR N wd:=by
 have h:=(ao.1 hok).1
 have hr:=(an.1 h).1
 have hn:=(ao.1 hok).2.1
 have hI:=invT hok hw n (Nat.le_refl _)
 have hlen:=hI.len
 have ho:=(cQ hok n (Nat.le_refl _)).ok.n
 have hone:(ordS N F n).nums=[N.ts.length+n-1]:=by
  by_cases e0:n=0
  ·subst e0
   rw[show (ordS N F 0).nums=List.range N.ts.length from gf N.ts]
   have:N.ts.length=1:=by omega
   rw[this];rfl
  ·obtain⟨q,rfl⟩:∃ q,n=q+1:=⟨n-1,by omega⟩
   have hs:=cl hok (show q<q+1 by omega)
   have e:=d8 (cQ hok q (by omega)).ok (os:=N.os) (a:=stA F q) (b:=stB F q)
   rw[← hs.nx]at e
   have hl:=congrArg List.length e
   rw[List.length_append,List.length_singleton]at hl
   have h0:((ordS N F q).nums.filter (Osd.off (stA F q) (stB F q))).length=0:=by omega
   rw[e,List.eq_nil_of_length_eq_zero h0,List.nil_append]
   congr 1
 have hlast:N.ts.length+n-1<N.ts.length+n:=by omega
 have tv:=hI.tv _ hlast
 have lb:=hI.lab _ hlast
 generalize hT:tA N wd F n (N.ts.length+n-1)=T at tv lb ⊢
 have hmR:∀ x,x∈Rk N F n↔x∈T.labels∧x∉N.os:=fun x=>by
  rw[nw,hone,lb]
  constructor
  ·rintro⟨hc,i,hi,hx⟩
   rw[List.mem_singleton.1 hi]at hx
   exact⟨hx,hc.2⟩
  ·rintro⟨hx,hno⟩
   exact⟨⟨hI.sub _ hlast x hx,hno⟩,_,List.mem_singleton.2 rfl,hx⟩
 obtain⟨nvt,nve⟩:=BN h hw
 have hos:∀ x∈N.os,x∈T.labels:=by
  have hgen:∀ k,k≤n→∀ x∈N.os,∃ i,i∈(ordS N F k).nums∧x∈(ordS N F k).lab i:=by
   intro k
   induction k with
   | zero=>
    intro _ x hx
    obtain⟨t,ht,hxt⟩:=jY ((eJ h).1 (qn h x hx))
    obtain⟨i,hi,rfl⟩:=List.getElem_of_mem ht
    refine⟨i, ?_, ?_⟩
    ·rw[show (ordS N F 0).nums=List.range N.ts.length from gf N.ts];exact List.mem_range.2 hi
    ·rw[show (ordS N F 0).lab i=(N.ts.getD i ⟨[],[],[]⟩).labels from qE hi,zq,zg hi];exact hxt
   | succ k ih=>
    intro hk x hx
    obtain⟨i,hi,hxi⟩:=ih (by omega) x hx
    have hs:=cl hok (show k<n by omega)
    have hok':=(cQ hok k (by omega)).ok
    have hil:i<N.ts.length+k:=by have:=(em.1 hi).1;rw[hok'.n]at this;exact this
    have e:=d8 hok' (os:=N.os) (a:=stA F k) (b:=stB F k)
    rw[hs.nx]
    by_cases hoff:Osd.off (stA F k) (stB F k) i=true
    ·refine⟨i, ?_,by rw[jX hok' hil];exact hxi⟩
     rw[e];exact List.mem_append_left _ (List.mem_filter.2 ⟨hi,hoff⟩)
    ·refine⟨N.ts.length+k, ?_, ?_⟩
     ·rw[e];exact List.mem_append_right _ (List.mem_singleton.2 rfl)
     ·rw[dU hok',Osd.res,List.mem_filter,aY,Osd.keep,List.mem_append]
      refine⟨bb.2 ?_,.inl hx⟩
      by_cases ea:i=stA F k
      ·rw[ea]at hxi;exact .inl hxi
      by_cases eb:i=stB F k
      ·rw[eb]at hxi;exact .inr hxi
      ·exact absurd (by simp [Osd.off,ea,eb]) hoff
  intro x hx
  obtain⟨i,hi,hxi⟩:=hgen n (Nat.le_refl _) x hx
  rw[hone]at hi
  rw[List.mem_singleton.1 hi]at hxi
  rw[lb];exact hxi
 refine⟨tv,hos,hone, ?_⟩
 obtain⟨ft,fe⟩:=Gb hr hw tv (yl h) hos
 refine xX hr hw ft nvt rfl fun a ha=> ?_
 rw[fe a ha,nve a ha, ← hI.val a ha,hone]
 unfold valL
 have hp:(T.labels.filter fun x=> !has N.os x).Perm (Rk N F n):=(List.perm_ext_iff_of_nodup (tv.nd.filter _) (Rk_nd n)).2 fun x=>by
  rw[hmR,List.mem_filter,Bool.not_eq_true',bT]
 rw[kH _ _ hp (tv.nd.filter _)]
 refine cm _ _ fun b _=> ?_
 show elT hr hw (dimF N) T b=(aM hr hw).mul (elT hr hw (dimF N) (tA N wd F n (N.ts.length+n-1)) b) (aM hr hw).one
 rw[hT,(aM hr hw).mul_one]
end
end Go.Proofs.YtneocijmbnhblaaGreat.Sem
