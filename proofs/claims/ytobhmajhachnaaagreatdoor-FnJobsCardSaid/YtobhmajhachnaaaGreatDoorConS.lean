/-
 Contracts: labels fixed. No condition.
-/
import Derived.Test.YtobhmajhachnaaaGreatDoorMgJobsA
import Derived.Test.YtobhmajhachnaaaGreatDoorCoD
import Derived.Test.YtobhmajhachnaaaGreatDoorLiftH
set_option linter.unusedSimpArgs false
set_option linter.unusedVariables false
namespace Go.Proofs.YtobhmajhachnaaaGreatDoor
open Go.RowKit Go.Lift Plain
set_option maxRecDepth 100000
theorem qo{ls ds:List Int}(h1:ls.length≤12)(h2:ls.length=ds.length)(h3:ls.Nodup)(h4:∀l∈ls,0≤l∧l≤99)(h5:∀d∈ds,1≤d∧d≤8):axOk ls ds:=by
 refine⟨h1,h2,fun k hk=> ?_⟩;have a:=h4 _ (dN ls k hk);have b:=h5 _ (dN ds k (by omega));have c:=dQ h3 hk;rw[← ac hk]at c;exact⟨a.1,a.2,b.1,b.2,c⟩
theorem D1{ls ds:List Int}(h:axOk ls ds):∀l∈ls,0≤l∧l≤99:=fun l hl=>by
 obtain⟨k,hk,rfl⟩:=List.getElem_of_mem hl;have:=h.2.2 k hk;unfold axAt at this;rw[ac hk]at this;omega
theorem JD{r:Rg}{t:Ten}{x:Int}{u wd n j:Nat}(hw:af r=wd)(hr:ai r=true)(hf:fits r t.data)(h:SliOk t x u wd n j):
  al r (sliR wd t x u j).labels (sliR wd t x u j).dims (sliR wd t x u j).data=true:=by
 have hpN:=h.pN;have hn:=h.nN;have hn1:=h.n1;have hax:axOk (wo t.labels x) (sliD t j):=qo (Nat.le_trans (Am _ _) h.ax.1) h.dlen.symm (List.Nodup.sublist List.filter_sublist h.nodup) (fun l hl=>D1 h.ax l (mM.1 hl).1) h.dbd;have hts:aT (wo t.labels x) (sliD t j)=aa (sliD t j):=wv hax.1 hax.2.1 hax.2.2 (by omega);have e:al r (sliR wd t x u j).labels (sliR wd t x u j).dims (sliR wd t x u j).data=decide (aT (wo t.labels x) (sliD t j)≠ -1):=by
  refine Bs hr ?_ (eK fun y hy=>fA hf y (t8 y hy))
  show ((gath t.data wd (offJ u t.dims j) (sliN t j)).length:Int)=aa (sliD t j)*_
  rw[dP fun q hq=>h.cut hq,hpN.1,hw]
  simp
 rw[e,hts];exact decide_eq_true (by omega)
theorem Dc{t:Ten}{x:Int}{u wd n j:Nat}(h:SliOk t x u wd n j){l:Int}(hl:l∈wo t.labels x):ao (sliR wd t x u j) l=ao t l:=by
 obtain⟨k,hk,h1,h2,_⟩:=eU hl
 show (sliD t j).getD (place (wo t.labels x) l).toNat 0=_
 rw[h1, ← h.dims];simp [hk,h2]
def d7(r:Rg)(t:Ten)(L V:List Int):Nat→Ten
 |0=>t
 |k+1=>if L.getD k 0∈(d7 r t L V k).labels then sliT r (d7 r t L V k) (L.getD k 0) (V.getD k 0) else d7 r t L V k
def AY(r:Rg)(t:Ten)(L V:List Int)(n:Nat):Prop:=∀j,j<n→L.getD j 0∈(d7 r t L V j).labels→sliB r (d7 r t L V j) (L.getD j 0) (V.getD j 0)=true
instance (r:Rg) (t:Ten) (L V:List Int) (n:Nat):Decidable (AY r t L V n):=inferInstanceAs (Decidable (∀j,j<n→_))
structure FixSt(r:Rg)(t:Ten)(L:List Int)(k:Nat)(s:Ten):Prop where
 ok:al r s.labels s.dims s.data=true
 sz:TSz 1048576 s
 lab:∀l,l∈s.labels↔l∈t.labels∧l∉L.take k
 dim:∀l∈s.labels,ao s l=ao t l
theorem IC{r:Rg}{t:Ten}{L V:List Int}(h:al r t.labels t.dims t.data=true)(hs:TSz 1048576 t):∀k,k≤L.length→AY r t L V k→FixSt r t L k (d7 r t L V k)
 |0,_,_=>⟨h,hs,fun l=>by simp [d7],fun l _=>rfl⟩
 |k+1,hk,hg=>by
  have ih:=IC (L:=L) h hs k (by omega) fun j hj=>hg j (by omega)
  have hlt:k<L.length:=by omega
  have hgk:=hg k (by omega);have htk:∀l,l∈L.take (k+1)↔l∈L.take k∨l=L.getD k 0:=fun l=>lH L k l hlt
  rw[d7];by_cases hm:L.getD k 0∈(d7 r t L V k).labels
  ·rw[if_pos hm]
   obtain⟨u,wd,n,j,e1,e2,e3,hS,e4⟩:=sb (hgk hm);rw[e4];obtain⟨wd',n',f1,f2,f3,f4,f5,f6,f7,f8,f9,f10⟩:=ct ih.ok;have hsz:=JC (r:=r) (x:=L.getD k 0) (v:=V.getD k 0) ih.sz;rw[e4]at hsz;refine⟨JD e2 f9 f8 hS,hsz,fun l=> ?_,fun l hl=> ?_⟩
   ·show l∈wo _ _↔_
    rw[mM,ih.lab,htk]
    constructor
    ·rintro⟨⟨a,b⟩,c⟩
     exact⟨a,fun e=>e.elim b c⟩
    ·rintro⟨a,b⟩
     exact⟨⟨a,fun e=>b (.inl e)⟩,fun e=>b (.inr e)⟩
   ·rw[Dc hS hl]
    exact ih.dim l (mM.1 hl).1
  ·rw[if_neg hm]
   refine⟨ih.ok,ih.sz,fun l=> ?_,ih.dim⟩;rw[ih.lab,htk];rw[ih.lab]at hm
   constructor
   ·rintro⟨a,b⟩
    exact⟨a,fun e=>e.elim b fun e=>hm (e ▸ ⟨a,b⟩)⟩
   ·rintro⟨a,b⟩
    exact⟨a,fun e=>b (.inl e)⟩
end Go.Proofs.YtobhmajhachnaaaGreatDoor
