/-
 The value of a network by its definition is the sum over its closed labels of the product of its tensors. No condition.
-/
import Derived.Test.YtjfmckhbmdjnpaaGreatSemB
import Derived.Test.YtjfmckhbmdjnpaaGreatOrdT
import Derived.Test.YtjfmckhbmdjnpaaGreatPlD
set_option linter.unusedSimpArgs false
set_option linter.unusedVariables false
namespace Go.Proofs.YtjfmckhbmdjnpaaGreat.Sem
open Plain
def dimF (N:Net):Int→Nat:=fun x=>(dimN N.ts x).toNat
def aq (N:Net):List Int:=am (labP N.ts) 100
section
variable {N : Net} {wd : Nat}
theorem lL (h:bn N=true) (x:Int):(dimF N x:Int)=dimN N.ts x:=by
 have:=jc (bS h) x
 unfold dimF
 omega
theorem IG (h:bn N=true) (hw:ah N.rg=wd) {t:Ten} (ht:t∈N.ts):TV N.rg wd (dimF N) t:=by
 have hok:=(ay.1 h).2.2.1 t ht
 have hf:=cF hok
 have hax:=hf.2.1
 have hdm:t.dims=bD (dimF N) t.labels:=by
  apply List.ext_getElem
  ·simp [bD,hax.len]
  intro k h1 h2
  have hk:k<t.labels.length:=by rw[hax.len];exact h1
  have e1:=lM h ht (List.getElem_mem hk)
  have e2:=fK (t:=t) hax hk h1
  simp only[bD,List.getElem_map]
  rw[lL h, ← e1,e2]
 refine⟨bX hax,hdm,fun x hx=> ?_, ?_, ?_⟩
 ·have e1:=lM h ht hx
  have e2:=cx hax hx
  have e3:=lL h x
  omega
 ·have e:=hf.2.2.2.2.2
  rw[hdm,eH,hw]at e
  exact_mod_cast e
 ·simp only[aD,Bool.and_eq_true,m4,decide_eq_true_eq]at hok
  exact hok.2
theorem cf (h:bn N=true) {x:Int}:x∈aq N↔dimN N.ts x≠0:=dK (bS h)
theorem fH (N:Net):(aq N).Nodup:=by
 unfold aq am
 refine List.Pairwise.map _ (fun a b h=> ?_) (List.nodup_range.filter _)
 intro e
 exact h (by exact_mod_cast e)
theorem EA (h:bn N=true):∀ x∈aq N,1≤dimF N x:=fun x hx=>by
 have h1:=(cf h).1 hx
 have h2:=jc (bS h) x
 have h3:=lL h x
 omega
theorem dA (h:bn N=true) {t:Ten} (ht:t∈N.ts) {x:Int} (hx:x∈t.labels):x∈aq N:=by
 have e1:=lM h ht hx
 have e2:=cx (bS h t ht) hx
 exact(cf h).2 (by omega)
theorem Eh (h:bn N=true):axOk N.os (N.os.map (dimN N.ts)):=by
 have h0:=(ay.1 h).2.2.2.2
 false_or_by_contra
 rename_i hc
 exact h0 (if_neg fun hc'=>hc hc'.1)
theorem yD (h:bn N=true):N.os.Nodup:=bX (Eh h)
theorem sf (h:bn N=true):∀ x∈N.os,x∈aq N:=fun x hx=>by
 have:=(Eh h).dim (dimN N.ts x) (List.mem_map.2 ⟨x,hx,rfl⟩)
 exact(cf h).2 (by omega)
theorem Gz (h:bn N=true):N.os.map (dimN N.ts)=bD (dimF N) N.os:=List.map_congr_left fun x _=>(lL h x).symm
def wgtI (N:Net) (wd:Nat) (k:Nat):List Int:=N.ts.foldl (fun acc t=>mulE N.rg acc (cutE t.data wd (bw t.labels t.dims (aq N) ((aq N).map (dimN N.ts)) k))) (oneE N.rg wd)
def nvO (N:Net) (k:Nat):Nat:=bw N.os (N.os.map (dimN N.ts)) (aq N) ((aq N).map (dimN N.ts)) k
def nvTo (N:Net) (wd:Nat) (z:List Int):Nat→List Int
 | 0=>z
 | k+1=>putE (nvTo N wd z k) (nvO N k*wd) (addE N.rg (((nvTo N wd z k).drop (nvO N k*wd)).take wd) (wgtI N wd k))
def nvR (N:Net) (wd:Nat):Ten:=
 ⟨N.os,N.os.map (dimN N.ts),nvTo N wd (repE (aA N.rg.k N.rg.p wd) (bC (N.os.map (dimN N.ts)))) (bC ((aq N).map (dimN N.ts)))⟩
theorem Bt {r:Rg} (hr:ae r=true) (hw:ah r=wd) {c:Ten→List Int} {e:Ten→Asg→Elt r wd} {b:Asg}:∀ (ts:List Ten) (x:Elt r wd),(∀ t∈ts,(e t b).val=c t)→
  ts.foldl (fun acc t=>mulE r acc (c t)) x.val=((aB hr hw).mul x (prL (aB hr hw) (ts.map e) b)).val
 | [],x,_=>by
  show x.val=((aB hr hw).mul x (aB hr hw).one).val
  rw[(aB hr hw).mul_one]
 | t :: ts,x,h=>by
  have h1:=h t List.mem_cons_self
  have ih:=Bt hr hw (c:=c) (e:=e) (b:=b) ts ((aB hr hw).mul x (e t b)) fun u hu=>h u (List.mem_cons_of_mem _ hu)
  rw[List.foldl_cons, ← h1]
  refine Eq.trans ih ?_
  rw[List.map_cons,prL,(aB hr hw).mul_assoc]
def aX (N:Net):List Int:=(aq N).filter fun x=> !has N.os x
theorem Cz (h:bn N=true):(aq N).Perm (aX N++N.os):=by
 refine(List.perm_ext_iff_of_nodup (fH N) ?_).2 fun x=> ?_
 ·refine List.nodup_append.2 ⟨(fH N).filter _,yD h,fun x hx y hy e=> ?_⟩
  subst e
  have h1:=(List.mem_filter.1 hx).2
  rw[az.2 hy]at h1
  cases h1
 ·rw[List.mem_append,aX,List.mem_filter]
  constructor
  ·intro hx
   by_cases ho:x∈N.os
   ·exact .inr ho
   ·exact .inl ⟨hx,by rw[aT.2 ho];rfl⟩
  ·exact fun h'=>h'.elim (fun h'=>h'.1) (sf h x)
theorem JY (h:bn N=true) (hw:ah N.rg=wd):TV N.rg wd (dimF N) (nvR N wd)∧
  ∀ a:Asg,(∀ x∈N.os,a x<dimF N x)→elT (ay.1 h).1 hw (dimF N) (nvR N wd) a=valL (aB (ay.1 h).1 hw) (dimF N) (N.ts.map (elT (ay.1 h).1 hw (dimF N))) (aX N) a:=by
 have hr:=(ay.1 h).1
 have hLn:=fH N
 have hLd:=EA h
 have hon:=yD h
 have hoi:=sf h
 have hod:=Gz h
 have hld:(aq N).map (dimN N.ts)=bD (dimF N) (aq N):=List.map_congr_left fun x _=>(lL h x).symm
 have hop:∀ x∈N.os,1≤dimF N x:=fun x hx=>hLd x (hoi x hx)
 have hasg:∀ (a:Asg) (i:Nat) x,x∈aq N→asgN (dimF N) a (aq N) i x<dimF N x:=fun a i x hx=>jf (dimF N) _ hLd a i x hx
 have hz:(aA N.rg.k N.rg.p wd).length=wd:=bI ..
 have hO:∀ (a:Asg) i,nvO N i=offR (dimF N) N.os (asgN (dimF N) a (aq N) i):=fun a i=>by
  unfold nvO
  rw[hod,hld,f9 (dimF N) hLn hon hoi a i]
 have hacc:∀ a:Asg,∀ i,i≤pN (dimF N) (aq N)→(nvTo N wd (repE (aA N.rg.k N.rg.p wd) (pN (dimF N) N.os)) i).length=pN (dimF N) N.os*wd∧
   ∀ k,k<pN (dimF N) N.os→cutE (nvTo N wd (repE (aA N.rg.k N.rg.p wd) (pN (dimF N) N.os)) i) wd k=
    (sm (aB hr hw) (fun j=>if nvO N j=k then prL (aB hr hw) (N.ts.map (elT hr hw (dimF N))) (asgN (dimF N) a (aq N) j) else (aB hr hw).zero) i).val:=fun a=>by
  refine xW hr hw (T:=fun i=>nvTo N wd (repE (aA N.rg.k N.rg.p wd) (pN (dimF N) N.os)) i) ?_ ?_ ?_ ?_
  ·show (repE (aA N.rg.k N.rg.p wd) (pN (dimF N) N.os)).length=_
   rw[dJ,hz]
  ·intro k hk
   exact rS hz hk
  ·intro i hi
   have e:(prL (aB hr hw) (N.ts.map (elT hr hw (dimF N))) (asgN (dimF N) a (aq N) i)).val=wgtI N wd i:=by
    have:=Bt hr hw (c:=fun t=>cutE t.data wd (bw t.labels t.dims (aq N) ((aq N).map (dimN N.ts)) i)) (e:=elT hr hw (dimF N)) (b:=asgN (dimF N) a (aq N) i) N.ts (aB hr hw).one fun t ht=>by
     have hT:=IG h hw ht
     rw[lK hr hw hT fun x hx=>hasg a i x (dA h ht hx),hld,hT.dm,f9 (dimF N) hLn hT.nd (fun x hx=>dA h ht hx) a i]
    rw[(aB hr hw).one_mul]at this
    exact this.symm
   rw[e]
   rfl
  ·intro i hi
   rw[hO a i]
   exact fp (dimF N) fun x hx=>hasg a i x (hoi x hx)
 have hdat:(nvR N wd).data=nvTo N wd (repE (aA N.rg.k N.rg.p wd) (pN (dimF N) N.os)) (pN (dimF N) (aq N)):=by
  show nvTo N wd (repE (aA N.rg.k N.rg.p wd) (bC (N.os.map (dimN N.ts)))) (bC ((aq N).map (dimN N.ts)))=_
  rw[hod,hld,lm,lm]
 have hlab:(nvR N wd).labels=N.os:=rfl
 have hT:TV N.rg wd (dimF N) (nvR N wd):=by
  refine⟨hon,hod,hop, ?_, ?_⟩
  ·rw[hdat,hlab];exact(hacc (fun _=>0) _ (Nat.le_refl _)).1
  ·rw[hdat]
   obtain⟨h1,h2⟩:=hacc (fun _=>0) _ (Nat.le_refl _)
   refine rI hr hw h1 fun k hk=> ?_
   rw[h2 k hk]
   exact Subtype.property _
 refine⟨hT,fun a ha=> ?_⟩
 refine xJ hr hw hT ha ?_
 rw[hdat,hlab,(hacc a _ (Nat.le_refl _)).2 _ (fp (dimF N) ha)]
 congr 1
 have e1:sm (aB hr hw) (fun j=>if nvO N j=offR (dimF N) N.os a then prL (aB hr hw) (N.ts.map (elT hr hw (dimF N))) (asgN (dimF N) a (aq N) j) else (aB hr hw).zero) (pN (dimF N) (aq N))=
   sm (aB hr hw) (fun j=>(fun b=>if agr N.os b a=true then prL (aB hr hw) (N.ts.map (elT hr hw (dimF N))) b else (aB hr hw).zero) (asgN (dimF N) a (aq N) j)) (pN (dimF N) (aq N)):=by
  refine cw _ fun j hj=> ?_
  have hiff:nvO N j=offR (dimF N) N.os a↔agr N.os (asgN (dimF N) a (aq N) j) a=true:=by
   rw[hO a j,jg]
   exact⟨fun e=>qc (dimF N) (fun x hx=>hasg a j x (hoi x hx)) ha e,fun e=>gN (dimF N) e⟩
  by_cases h:nvO N j=offR (dimF N) N.os a
  ·simp only[if_pos h,if_pos (hiff.1 h)]
  ·simp only[if_neg h,if_neg fun e=>h (hiff.2 e)]
 have e3:=zX (aB hr hw) (dimF N) (fun b=>if agr N.os b a=true then prL (aB hr hw) (N.ts.map (elT hr hw (dimF N))) b else (aB hr hw).zero) (aq N) hLd a
 refine e1.trans (e3.trans ?_)
 rw[o8 _ (dimF N) (Cz h) hLn,pU]
 unfold valL
 refine bJ _ (dimF N) fun a' ha'=> ?_
 have hdis:∀ x∈N.os,x∉aX N:=fun x hx h'=>by
  have h2:=(List.mem_filter.1 h').2
  rw[az.2 hx]at h2
  cases h2
 have haa:∀ x∈N.os,a' x=a x:=fun x hx=>ha'.1 x (hdis x hx)
 have e2:sumL (aB hr hw) (dimF N) N.os (fun b=>if agr N.os b a=true then prL (aB hr hw) (N.ts.map (elT hr hw (dimF N))) b else (aB hr hw).zero) a'=
   sumL (aB hr hw) (dimF N) N.os (fun b=>if agr N.os b a'=true then prL (aB hr hw) (N.ts.map (elT hr hw (dimF N))) b else (aB hr hw).zero) a':=by
  refine bJ _ (dimF N) fun b _=> ?_
  have:agr N.os b a=agr N.os b a':=Bool.eq_iff_iff.2 (by
   rw[jg,jg]
   exact⟨fun h x hx=>(h x hx).trans (haa x hx).symm,fun h x hx=>(h x hx).trans (haa x hx)⟩)
  rw[this]
 rw[e2]
 refine tL (aB hr hw) (dimF N) hon (fun x hx=>by rw[haa x hx];exact ha x hx) (fun b b' hb=> ?_) a' fun _ _=>rfl
 have:b=b':=funext hb
 rw[this]
end
end Go.Proofs.YtjfmckhbmdjnpaaGreat.Sem
namespace Go.Proofs.YtjfmckhbmdjnpaaGreat.Sem
open Plain
section
variable {N : Net} {wd n : Nat} {F : List Int}
def tA (N:Net) (wd:Nat) (F:List Int):Nat→Nat→Ten
 | 0,i=>N.ts.getD i ⟨[],[],[]⟩
 | k+1,i=>if i=N.ts.length+k then conR N.rg wd (tA N wd F k (stA F k)) (tA N wd F k (stB F k)) ((ordS N F k).res N.os (stA F k) (stB F k)) else tA N wd F k i
def occ (s:Osd) (x:Int):Bool:=s.nums.any fun i=>has (s.lab i) x
def Rk (N:Net) (F:List Int) (k:Nat):List Int:=(aX N).filter (occ (ordS N F k))
structure InvT (N:Net) (wd:Nat) (F:List Int) (h:bn N=true) (hw:ah N.rg=wd) (k:Nat):Prop where
 tv:∀ i,i<N.ts.length+k→TV N.rg wd (dimF N) (tA N wd F k i)
 lab:∀ i,i<N.ts.length+k→(tA N wd F k i).labels=(ordS N F k).lab i
 sub:∀ i,i<N.ts.length+k→∀ x∈(ordS N F k).lab i,x∈aq N
 len:(ordS N F k).nums.length+k=N.ts.length
 val:∀ a:Asg,(∀ x∈N.os,a x<dimF N x)→valL (aB (ay.1 h).1 hw) (dimF N) ((ordS N F k).nums.map fun i=>elT (ay.1 h).1 hw (dimF N) (tA N wd F k i)) (Rk N F k) a=
  valL (aB (ay.1 h).1 hw) (dimF N) (N.ts.map (elT (ay.1 h).1 hw (dimF N))) (aX N) a
end
end Go.Proofs.YtjfmckhbmdjnpaaGreat.Sem
namespace Go.Proofs.YtjfmckhbmdjnpaaGreat.Sem
open Plain
section
variable {r : Rg} {wd : Nat} (hr : ae r = true) (hw : ah r = wd) {dim : Int → Nat}
def bB (r:Rg) (wd:Nat):Ten:=⟨[],[],oneE r wd⟩
include hr hw in
theorem iC:TV r wd dim (bB r wd):=by
 refine⟨List.nodup_nil,rfl,fun x hx=>(by cases hx), ?_,(El.unit hr hw).fit⟩
 show (oneE r wd).length=1*wd
 rw[fE,Nat.one_mul]
theorem xe (a:Asg):elT hr hw dim (bB r wd) a=(aB hr hw).one:=
 xJ hr hw (iC hr hw) (fun x hx=>by cases hx) (by
  show cutE (oneE r wd) wd 0=oneE r wd
  unfold cutE
  rw[Nat.zero_mul,List.drop_zero]
  exact zt (by rw[fE];exact Nat.le_refl _))
theorem wQ {src:List Int} {f:Nat→Nat} {n0:Nat} (hs:src.length=n0*wd):∀ {n k:Nat},(∀ i,i<n→f i<n0)→k<n→cutE (gath src wd f n) wd k=cutE src wd (f k)
 | 0,k,_,h=>by omega
 | n+1,k,hf,h=>by
  have hb:∀ i,i<n+1→f i*wd+wd≤src.length:=fun i hi=>by
   have:=Nat.mul_le_mul_right wd (show f i+1≤n0 from hf i hi)
   rw[Nat.succ_mul]at this
   omega
  have hl:(gath src wd f n).length=n*wd:=n5 fun i hi=>hb i (by omega)
  unfold cutE
  by_cases e:k=n
  ·subst e
   rw[gath,List.drop_append_of_le_length (by omega),List.drop_of_length_le (by omega),List.nil_append,zt (by rw[List.length_take];omega)]
  ·have hk:k<n:=by omega
   have h2:=Nat.mul_le_mul_right wd (show k+1≤n from hk)
   rw[Nat.succ_mul]at h2
   have ih:=wQ hs (f:=f) (fun i hi=>hf i (by omega)) hk
   unfold cutE at ih
   rw[gath,List.drop_append_of_le_length (by omega),List.take_append_of_le_length (by rw[List.length_drop];omega)]
   exact ih
theorem Gw {t:Ten} (h:TV r wd dim t) {L:List Int} (hL:L.Nodup) (hs:∀ x,x∈L↔x∈t.labels):TV r wd dim (fB wd t L)∧∀ a:Asg,(∀ x∈L,a x<dim x)→elT hr hw dim (fB wd t L) a=elT hr hw dim t a:=by
 have hd:aS t L=bD dim L:=List.map_congr_left fun x hx=>h.dimEq ((hs x).1 hx)
 have hdp:∀ x∈L,1≤dim x:=fun x hx=>h.dp x ((hs x).1 hx)
 have hoff:∀ (a:Asg) i,c9 t L i=offR dim t.labels (asgN dim a L i):=fun a i=>by
  show bw t.labels t.dims L (aS t L) i=_
  rw[hd,h.dm,f9 dim hL h.nd (fun x hx=>(hs x).2 hx) a i]
 have hlt:∀ i,c9 t L i<pN dim t.labels:=fun i=>by
  rw[hoff (fun _=>0) i]
  exact fp dim fun x hx=>jf dim L hdp _ i x ((hs x).2 hx)
 have hn:lW t L=pN dim L:=by
  unfold lW
  rw[hd,eH];rfl
 have hdat:(fB wd t L).data=gath t.data wd (c9 t L) (pN dim L):=by
  show gath t.data wd (c9 t L) (lW t L)=_
  rw[hn]
 have hcut:∀ k,k<pN dim L→cutE (fB wd t L).data wd k=cutE t.data wd (c9 t L k):=fun k hk=>by
  rw[hdat]
  exact wQ h.len (fun i _=>hlt i) hk
 have hlen:(fB wd t L).data.length=pN dim L*wd:=by
  rw[hdat]
  refine n5 fun i _=> ?_
  have:=Nat.mul_le_mul_right wd (show c9 t L i+1≤pN dim t.labels from hlt i)
  rw[Nat.succ_mul]at this
  rw[h.len];omega
 have hT:TV r wd dim (fB wd t L):=⟨hL,hd,hdp,hlen,rI hr hw hlen fun k hk=>by rw[hcut k hk];exact h.el (hlt k)⟩
 refine⟨hT,fun a ha=>xJ hr hw hT ha ?_⟩
 have hk:offR dim L a<pN dim L:=fp dim ha
 have hag:∀ x∈L,asgN dim a L (offR dim L a) x=a x:=qc dim (fun x hx=>jf dim L hdp a _ x hx) ha (u9 dim L hL hdp a _ hk)
 rw[lK hr hw h fun x hx=>ha x ((hs x).2 hx)]
 show cutE (fB wd t L).data wd (offR dim L a)=_
 rw[hcut _ hk,hoff a,gN dim fun x hx=>hag x ((hs x).2 hx)]
theorem FZ {t u:Ten} (ht:TV r wd dim t) (hu:TV r wd dim u) (hl:t.labels=u.labels) (h:∀ a:Asg,(∀ x∈t.labels,a x<dim x)→elT hr hw dim t a=elT hr hw dim u a):t=u:=by
 have hd:t.dims=u.dims:=by rw[ht.dm,hu.dm,hl]
 have hlt:=ht.len
 have hlu:=hu.len
 rw[← hl]at hlu
 have hwd:=wd6 hr hw
 have hc:∀ k,k<pN dim t.labels→cutE t.data wd k=cutE u.data wd k:=fun k hk=>by
  have h1:=h (asgN dim (fun _=>0) t.labels k) fun x hx=>jf dim _ ht.dp _ k x hx
  have h2:=congrArg Subtype.val h1
  rw[lK hr hw ht (fun x hx=>jf dim _ ht.dp _ k x hx),lK hr hw hu (fun x hx=>by rw[← hl]at hx;exact jf dim _ ht.dp _ k x hx), ← hl,u9 dim _ ht.nd ht.dp _ k hk]at h2
  exact h2
 have hdat:t.data=u.data:=by
  refine eL hlt hlu fun i hi=> ?_
  have hq:i / wd<pN dim t.labels:=Nat.div_lt_of_lt_mul (by rw[Nat.mul_comm];exact hi)
  have hm:=Nat.mod_lt i (show 0<wd by omega)
  have hdm:=Nat.div_add_mod i wd
  rw[Nat.mul_comm]at hdm
  have e:∀ xs:List Int,(cutE xs wd (i / wd)).getD (i % wd) 0=xs.getD i 0:=fun xs=>by
   unfold cutE
   rw[zq,zq,List.getElem?_take,if_pos hm,List.getElem?_drop,hdm]
  rw[← e t.data, ← e u.data,hc _ hq]
 obtain⟨l1,d1,x1⟩:=t
 obtain⟨l2,d2,x2⟩:=u
 simp only at hl hd hdat
 rw[hl,hd,hdat]
def finT (r:Rg) (wd:Nat) (t:Ten) (os:List Int):Ten:=fB wd (conR r wd t (bB r wd) os) os
theorem Jh {t:Ten} (h:TV r wd dim t) {os:List Int} (ho:os.Nodup) (hs:∀ x∈os,x∈t.labels):TV r wd dim (finT r wd t os)∧
  ∀ a:Asg,(∀ x∈os,a x<dim x)→elT hr hw dim (finT r wd t os) a=sumL (aB hr hw) dim (t.labels.filter fun x=> !has os x) (elT hr hw dim t) a:=by
 obtain⟨h1,h2⟩:=xO hr hw h (iC hr hw (dim:=dim)) os
 have hcl:conL t (bB r wd)=t.labels:=by
  show t.labels++([]:List Int).filter _=t.labels
  simp
 have hK:∀ x,x∈os↔x∈(conR r wd t (bB r wd) os).labels:=fun x=>by
  show x∈os↔x∈(conL t (bB r wd)).filter (has os)
  rw[hcl,List.mem_filter,az]
  exact⟨fun hx=>⟨hs x hx,hx⟩,fun hx=>hx.2⟩
 obtain⟨h3,h4⟩:=Gw hr hw h1 ho hK
 refine⟨h3,fun a ha=>(h4 a ha).trans ((h2 a fun x hx=>ha x ((hK x).2 hx)).trans ?_)⟩
 have hX:conX t (bB r wd) os=t.labels.filter fun x=> !has os x:=by unfold conX;rw[hcl]
 rw[hX]
 refine bJ _ dim fun b _=> ?_
 rw[xe,(aB hr hw).mul_one]
end
section
variable {N : Net} {wd n : Nat} {F : List Int}
end
end Go.Proofs.YtjfmckhbmdjnpaaGreat.Sem
