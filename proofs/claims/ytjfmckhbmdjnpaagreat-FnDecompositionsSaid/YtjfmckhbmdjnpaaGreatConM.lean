/-
 Contracts: slices of tensors. No condition.
-/
import Derived.Test.YtjfmckhbmdjnpaaGreatCoD
import Derived.Test.YtjfmckhbmdjnpaaGreatLift28
set_option linter.unusedSimpArgs false
set_option linter.unusedVariables false
namespace Go.Proofs.YtjfmckhbmdjnpaaGreat
open Go.RowKit Go.Lift Plain
set_option maxRecDepth 100000
def wo (ls:List Int) (x:Int):List Int:=ls.filter (· !=x)
theorem xY:∀ {ls:List Int} {j:Nat} (hj:j<ls.length),ls.Nodup→wo ls ls[j]=ls.eraseIdx j
 | [],j,h,_=>by simp at h
 | l :: ls,0,_,hn=>by
  simp only[List.nodup_cons]at hn
  simp only[wo,List.getElem_cons_zero,List.filter_cons,bne_self_eq_false,Bool.false_eq_true,if_false,List.eraseIdx_cons_zero]
  refine List.filter_eq_self.2 fun y hy=> ?_
  simp only[bne_iff_ne,ne_eq]
  exact fun e=>hn.1 (e ▸ hy)
 | l :: ls,j+1,hj,hn=>by
  simp only[List.nodup_cons]at hn
  have hj':j<ls.length:=by simpa using hj
  have ih:=xY hj' hn.2
  have hne:l≠ls[j]:=fun e=>hn.1 (e ▸ List.getElem_mem hj')
  simp only[wo,List.getElem_cons_succ,List.filter_cons,List.eraseIdx_cons_succ]
  rw[if_pos (by simpa using hne), ← ih];rfl
theorem lI {α β:Type} (f:α→β):∀ (l:List α) (j:Nat),(l.map f).eraseIdx j=(l.eraseIdx j).map f
 | [],_=>by simp
 | x :: l,0=>rfl
 | x :: l,j+1=>by simp [lI f l j]
structure SliOk (t:Ten) (x:Int) (v wd n j:Nat):Prop where
 ax:axOk t.labels t.dims
 pn:aa t.dims=n
 n1:1≤n∧n≤4096
 w1:1≤wd∧wd≤6
 dl:t.data.length=n*wd
 jl:j<t.labels.length
 jx:t.labels[j]? =some x
 vd:(v:Int)<t.dims.getD j 0
def sliD (t:Ten) (j:Nat):List Int:=t.dims.eraseIdx j
def sliN (t:Ten) (j:Nat):Nat:=bC (sliD t j)
def sliR (wd:Nat) (t:Ten) (x:Int) (v j:Nat):Ten:=⟨wo t.labels x,sliD t j,gath t.data wd (offJ v t.dims j) (sliN t j)⟩
namespace SliOk
variable {t : Ten} {x : Int} {v wd n j : Nat}
theorem lx (h:SliOk t x v wd n j):t.labels[j]'h.jl=x:=by have:=h.jx;rw[zg h.jl]at this;simpa using this
theorem nodup (h:SliOk t x v wd n j):t.labels.Nodup:=bX h.ax
theorem W (h:SliOk t x v wd n j):wo t.labels x=t.labels.eraseIdx j:=by have:=xY h.jl h.nodup;rwa [h.lx]at this
theorem bR (h:SliOk t x v wd n j):Plain.bR t.labels x=j:=by have:=gK h.jl (gU h.nodup h.jl);rwa [h.lx]at this
theorem jd (h:SliOk t x v wd n j):j<t.dims.length:=by have:=h.jl;have:=h.ax.len;omega
theorem len (h:SliOk t x v wd n j):(wo t.labels x).length=t.labels.length-1:=by rw[h.W,List.length_eraseIdx_of_lt h.jl]
theorem dims (h:SliOk t x v wd n j):(wo t.labels x).map (ar t)=sliD t j:=by
 rw[h.W, ← lI,qI h.ax];rfl
theorem strides (h:SliOk t x v wd n j):(wo t.labels x).map (ai t.labels t.dims)=(dc t.dims).eraseIdx j:=by
 rw[h.W, ← lI,mC _ _ h.ax.len h.nodup]
theorem stride (h:SliOk t x v wd n j):ai t.labels t.dims x=(dc t.dims).getD j 0:=by
 rw[← mC _ _ h.ax.len h.nodup,ab (by simpa using h.jl),List.getElem_map,h.lx]
theorem d1 (h:SliOk t x v wd n j):∀ d∈t.dims,1≤d:=fun d hd=>(h.ax.dim d hd).1
theorem off (h:SliOk t x v wd n j) {i:Nat} (hi:i<sliN t j):(v:Int)*ai t.labels t.dims x+dotI ((wo t.labels x).map (ai t.labels t.dims)) (ac (sliD t j) i)=offJ v t.dims j i:=by
 rw[h.stride,h.strides]
 exact yG v t.dims j i h.d1 h.jd hi
end SliOk
def sliB (r:Rg) (t:Ten) (x v:Int):Bool:=aD r t.labels t.dims t.data&&decide (x∈t.labels∧0≤v∧v<ar t x)
def sliT (r:Rg) (t:Ten) (x v:Int):Ten:=if sliB r t x v=true then sliR (ah r).toNat t x v.toNat (bR t.labels x).toNat else ⟨[],[],[]⟩
set_option maxRecDepth 100000
set_option maxRecDepth 100000
theorem tu {ls ds:List Int} (h1:ls.length≤12) (h2:ls.length=ds.length) (h3:ls.Nodup) (h4:∀ l∈ls,0≤l∧l≤99) (h5:∀ d∈ds,1≤d∧d≤8):axOk ls ds:=by
 refine⟨h1,h2,fun k hk=> ?_⟩
 have a:=h4 _ (f7 ls k hk)
 have b:=h5 _ (f7 ds k (by omega))
 have c:=gU h3 hk
 rw[← ab hk]at c
 exact⟨a.1,a.2,b.1,b.2,c⟩
def zy (r:Rg) (t:Ten) (L V:List Int):Nat→Ten
 | 0=>t
 | k+1=>if L.getD k 0∈(zy r t L V k).labels then sliT r (zy r t L V k) (L.getD k 0) (V.getD k 0) else zy r t L V k
def Ha (r:Rg) (t:Ten) (L V:List Int) (n:Nat):Prop:=∀ j,j<n→L.getD j 0∈(zy r t L V j).labels→sliB r (zy r t L V j) (L.getD j 0) (V.getD j 0)=true
instance (r:Rg) (t:Ten) (L V:List Int) (n:Nat):Decidable (Ha r t L V n):=inferInstanceAs (Decidable (∀ j,j<n→_))
structure FixSt (r:Rg) (t:Ten) (L:List Int) (k:Nat) (s:Ten):Prop where
 ok:aD r s.labels s.dims s.data=true
 sz:TSz 1048576 s
 lab:∀ l,l∈s.labels↔l∈t.labels∧l∉L.take k
 dim:∀ l∈s.labels,ar s l=ar t l
set_option maxRecDepth 100000
def fuL (t:Ten) (L:List Int) (x:Int):List Int:=wol t.labels L++[x]
def fuD (t:Ten) (L:List Int):List Int:=aS t (wol t.labels L)++[aa (aS t L)]
structure FuOk (r:Rg) (t:Ten) (L:List Int) (x:Int) (wd n:Nat):Prop where
 w:ah r=wd
 p:PermOk t (wol t.labels L++L) wd n
 ok:∀ x,aD r (fuL t L x) (fuD t L) (fB wd t (wol t.labels L++L)).data=decide (aU (fuL t L x) (fuD t L)≠ -1)
 pl:aa (aS t L)≤4096∧1≤aa (aS t L)
 dl:∀ d∈aS t L,1≤d∧d≤8
 len:(wol t.labels L).length≤12∧L.length≤12
 dle:((fB wd t (wol t.labels L++L)).data.length)≤24576
def add1 (r:Rg) (a b:Int):Int:=
 if r.k=1∨r.k=5 then max a b else if r.k=3 then min (a+b) r.p else if r.k=4 then min a b else if r.k=6 then orI a b else (a+b).tmod r.p
def addE (r:Rg) (x y:List Int):List Int:=List.zipWith (add1 r) x y
theorem Ei (a b:Int):orI a b=orI b a:=by unfold orI;rw[BitVec.or_comm]
theorem Dm (r:Rg) (a b:Int):add1 r a b=add1 r b a:=by
 unfold add1
 rw[Int.max_comm,Int.add_comm,Int.min_comm a b,Ei]
theorem Dk (r:Rg) (x y:List Int):addE r x y=addE r y x:=by
 unfold addE
 rw[List.zipWith_comm]
 congr 1
 funext a b
 exact Dm r b a
theorem i6 {r:Rg} {x y:List Int} {n:Nat} (h:x.length=n) (h':y.length=n):(addE r x y).length=n:=by simp [addE,h,h']
theorem vq {r:Rg} {x y:List Int} {k:Nat} (h:k<x.length) (h':k<y.length):(addE r x y)[k]? =some (add1 r x[k] y[k]):=by rw[addE,List.getElem?_zipWith,zg h,zg h']
def cutE (x:List Int) (wd k:Nat):List Int:=(x.drop (k*wd)).take wd
section
variable {f : List Int → List Int → List Int} {x y z : List Int} {wd n k : Nat}
theorem nj (h:x.length=n*wd) (hk:k<n):(cutE x wd k).length=wd:=by
 have:=kC (wd:=wd) hk
 unfold cutE
 rw[List.length_take,List.length_drop]
 omega
end
def alS (r:Rg) (a b:Ten):Bool:=aD r a.labels a.dims a.data&&aD r b.labels b.dims b.data&&lV a.labels b.labels
def alB (r:Rg) (a b:Ten):Bool:=alS r a b&&decide (aS b a.labels=a.dims)
def alT (r:Rg) (a b:Ten):Ten:=fB (ah r).toNat b a.labels
structure AlOk (r:Rg) (a b:Ten) (wd n:Nat):Prop where
 ring:ae r=true
 w:ah r=wd
 wb:1≤wd∧wd≤6
 pa:aa a.dims=n
 n1:1≤n∧n≤4096
 ax:axOk a.labels a.dims
 la:a.data.length=n*wd
 lb:(alT r a b).data.length=n*wd
 fa:fits r a.data
 fb:fits r (alT r a b).data
 dims:aS b a.labels=a.dims
theorem eh {r:Rg} {x:List Int} (h:fits r x) (wd k:Nat):fits r (cutE x wd k):=gW h (k*wd) wd
namespace AlOk
variable {r : Rg} {a b : Ten} {wd n : Nat}
end AlOk
end Go.Proofs.YtjfmckhbmdjnpaaGreat
namespace Go.Proofs.YtjfmckhbmdjnpaaGreat
open Plain
theorem yK {a:Int} {m:Nat} (h:0≤a∧a<(2:Int) ^ m) (hm:m≤20):∃ n:Nat,a=n∧n<2 ^ m∧n<1048577:=by
 obtain⟨n,rfl⟩:∃ n:Nat,a=n:=⟨a.toNat,by omega⟩
 have c:((2 ^ m:Nat):Int)=(2:Int) ^ m:=by simp
 have b:2 ^ m≤2 ^ 20:=Nat.pow_le_pow_right (by omega) hm
 exact⟨n,rfl,by omega,by omega⟩
theorem xX {n:Nat} (h:n<1048577):IntKind.i64.wrap (n:Int)=n:=by rw[IntKind.wrap_i64];omega
theorem dM {a b:Nat} (ha:a<1048577) (hb:b<1048577):andI a b=((a&&& b:Nat):Int):=by
 have e:(BitVec.ofInt 64 (a:Int)&&& BitVec.ofInt 64 (b:Int)).toNat=a&&& b:=by
  rw[BitVec.toNat_and,BitVec.ofInt_natCast,BitVec.ofInt_natCast,BitVec.toNat_ofNat,BitVec.toNat_ofNat,Nat.mod_eq_of_lt (by omega),Nat.mod_eq_of_lt (by omega)]
 have h:a&&& b≤a:=Nat.and_le_left
 rw[andI,e,xX (by omega)]
theorem iT {a b:Nat} (ha:a<2 ^ 20) (hb:b<2 ^ 20):orI a b=((a||| b:Nat):Int):=by
 have e:(BitVec.ofInt 64 (a:Int)||| BitVec.ofInt 64 (b:Int)).toNat=a||| b:=by
  rw[BitVec.toNat_or,BitVec.ofInt_natCast,BitVec.ofInt_natCast,BitVec.toNat_ofNat,BitVec.toNat_ofNat,Nat.mod_eq_of_lt (by omega),Nat.mod_eq_of_lt (by omega)]
 have h:a||| b<2 ^ 20:=Nat.or_lt_two_pow ha hb
 rw[orI,e,xX (by omega)]
theorem top6 {r:Rg} (h:r.k=6):top r=2 ^ r.n.toNat-1:=by unfold top;rw[if_neg (by omega),if_neg (by omega),if_pos h]
theorem Hz {r:Rg} {a b:Int} (hr:ae r=true) (hk:r.k=6) (ha:0≤a∧a≤top r) (hb:0≤b∧b≤top r):0≤andI a b∧andI a b≤top r:=by
 have hn:1≤r.n∧r.n≤20:=by rcases aL hr with h | h | h | h | h | h | h | h<;>omega
 rw[top6 hk]at*
 obtain⟨m,rfl,h1,h2⟩:=yK (a:=a) (m:=r.n.toNat) (by omega) (by omega)
 obtain⟨n,rfl,h3,h4⟩:=yK (a:=b) (m:=r.n.toNat) (by omega) (by omega)
 have h:m&&& n≤m:=Nat.and_le_left
 rw[dM h2 h4]
 omega
theorem IC {r:Rg} {a b:Int} (hr:ae r=true) (hk:r.k=6) (ha:0≤a∧a≤top r) (hb:0≤b∧b≤top r):0≤orI a b∧orI a b≤top r:=by
 have hn:1≤r.n∧r.n≤20:=by rcases aL hr with h | h | h | h | h | h | h | h<;>omega
 rw[top6 hk]at*
 obtain⟨m,rfl,h1,h2⟩:=yK (a:=a) (m:=r.n.toNat) (by omega) (by omega)
 obtain⟨n,rfl,h3,h4⟩:=yK (a:=b) (m:=r.n.toNat) (by omega) (by omega)
 have b:2 ^ r.n.toNat≤2 ^ 20:=Nat.pow_le_pow_right (by omega) (by omega)
 have h:m||| n<2 ^ r.n.toNat:=Nat.or_lt_two_pow h1 h3
 have c:((2 ^ r.n.toNat:Nat):Int)=(2:Int) ^ r.n.toNat:=by simp
 rw[iT (by omega) (by omega)]
 omega
theorem topP {r:Rg} (h:r.k=2∨r.k=7∨r.k=8):top r=r.p-1:=by unfold top;rw[if_neg (by omega),if_neg (by omega),if_neg (by omega)]
theorem topQ {r:Rg} (h:r.k=3∨r.k=4∨r.k=5):top r=r.p:=by unfold top;rw[if_neg (by omega),if_pos h]
theorem n7 {r:Rg} {x:Int} (h:0≤x∧x≤top r):fits r [x]:=fu fun y hy=>by simp only[List.mem_singleton]at hy;subst hy;exact h
theorem re {r:Rg} {x y:List Int} {wd:Nat} (hr:ae r=true) (hw:ah r=wd) (hx:fits r x) (hy:fits r y) (lx:x.length=wd) (ly:y.length=wd):fits r (mulE r x y):=by
 have hwb:=ci hr
 have htb:=dE hr
 have x0:=hx 0 (by omega)
 have y0:=hy 0 (by omega)
 unfold mulE
 by_cases h7:r.k=7∨r.k=8
 ·rw[if_neg (by omega),if_neg (by omega),if_neg (by omega),if_neg (by omega),if_neg (by omega)]
  obtain⟨hlx,hp⟩:=br hr hx (by omega)
  obtain⟨hly,_⟩:=br hr hy (by omega)
  obtain⟨_,h1,h2⟩:=kD hp (mP (by omega) x.length) hlx hly x.length
  refine fu fun z hz=> ?_
  have:=h1.mem z hz
  have:=topP (r:=r) (by omega)
  omega
 ·have hmm:0≤x.getD 0 0*y.getD 0 0:=Int.mul_nonneg x0.1 y0.1
  split
  ·exact n7 (by omega)
  ·split
   ·obtain⟨_,hp⟩:=br hr hx (by omega)
    have:=tmb hmm (show 0<r.p by omega)
    have:=topP (r:=r) (by omega)
    exact n7 (by omega)
   ·have hp:r.k=3∨r.k=4→1≤r.p∧r.p≤1000000:=fun h=>by rcases aL hr with h | h | h | h | h | h | h | h<;>omega
    split
    ·have:=hp (.inl (by assumption))
     have:=topQ (r:=r) (by omega)
     exact n7 (by omega)
    ·split
     ·have:=hp (.inr (by assumption))
      have:=topQ (r:=r) (by omega)
      exact n7 (by omega)
     ·have h6:r.k=6:=by rcases aL hr with h | h | h | h | h | h | h | h<;>omega
      rw[if_pos h6]
      exact n7 (Hz hr h6 x0 y0)
theorem FJ {r:Rg} {a b:Int} (hr:ae r=true) (ha:0≤a∧a≤top r) (hb:0≤b∧b≤top r):0≤add1 r a b∧add1 r a b≤top r:=by
 unfold add1
 split
 ·omega
 ·split
  ·have:=topQ (r:=r) (by omega)
   omega
  ·split
   ·omega
   ·split
    ·exact IC hr (by assumption) ha hb
    ·have hk:r.k=2∨r.k=7∨r.k=8:=by rcases aL hr with h | h | h | h | h | h | h | h<;>omega
     have hp:=(br (r:=r) (x:=[]) hr (fun k hk=>by simp at hk) hk).2
     have:=tmb (a:=a+b) (p:=r.p) (by omega) (by omega)
     have:=topP hk
     omega
theorem s6 {r:Rg} {x y:List Int} (hr:ae r=true) (hx:fits r x) (hy:fits r y):fits r (addE r x y):=fu fun z hz=>by
 obtain⟨k,hk,rfl⟩:=List.mem_iff_getElem.1 hz
 have hk':k<x.length∧k<y.length:=by simp [addE]at hk;omega
 have h:=vq (r:=r) hk'.1 hk'.2
 rw[zg hk]at h
 rw[Option.some.inj h]
 have h1:=hx k hk'.1
 have h2:=hy k hk'.2
 rw[ab hk'.1]at h1
 rw[ab hk'.2]at h2
 exact FJ hr h1 h2
def aA (kk pp:Int) (wd:Nat):List Int:=if kk=4 then (List.replicate wd 0).set 0 pp else List.replicate wd 0
theorem bI (kk pp:Int) (wd:Nat):(aA kk pp wd).length=wd:=by unfold aA;split<;>simp
theorem gC {r:Rg} {wd:Nat} (hr:ae r=true):fits r (aA r.k r.p wd):=fu fun x hx=>by
 have ht:=dE hr
 unfold aA at hx
 split at hx
 ·rename_i h4
  have:=topQ (r:=r) (by omega)
  rcases List.mem_or_eq_of_mem_set hx with h | h
  ·have:=List.eq_of_mem_replicate h;omega
  ·omega
 ·have:=List.eq_of_mem_replicate hx;omega
def repE (z:List Int):Nat→List Int
 | 0=>[]
 | k+1=>repE z k++z
theorem dJ (z:List Int):∀ k,(repE z k).length=k*z.length
 | 0=>by simp [repE]
 | k+1=>by rw[repE,List.length_append,dJ z k,Nat.succ_mul]
theorem tT {z:List Int}:∀ k,∀ x∈repE z k,x∈z
 | 0,x,h=>by simp [repE]at h
 | k+1,x,h=>by
  rw[repE,List.mem_append]at h
  exact h.elim (tT k x) id
theorem Ea {xs ys:List Int} {off:Nat}:∀ x∈putE xs off ys,x∈xs∨x∈ys:=fun x hx=>by
 simp only[putE,List.mem_append]at hx
 rcases hx with (h | h) | h
 ·exact .inl (List.mem_of_mem_take h)
 ·exact .inr h
 ·exact .inl (List.mem_of_mem_drop h)
theorem ra {r:Rg} {xs ys:List Int} {off:Nat} (h:fits r xs) (h':fits r ys):fits r (putE xs off ys):=fu fun x hx=>(Ea x hx).elim (gV h x) (gV h' x)
structure InOk (ls ds L D:List Int) (n:Nat):Prop where
 ax:axOk ls ds
 pn:aa ds=n
 n1:1≤n∧n≤4096
 nodup:L.Nodup
 sup:∀ x∈ls,x∈L
 dl:D.length=L.length
 dbd:∀ d∈D,1≤d∧d≤8
 same:∀ q (h:q<L.length),L[q]∈ls→D.getD q 0=ar ⟨ls,ds,[]⟩ L[q]
def bw (ls ds L D:List Int) (i:Nat):Nat:=(dotI (L.map (ai ls ds)) (ac D i)).toNat
namespace InOk
variable {ls ds L D : List Int} {n : Nat}
theorem idx (h:InOk ls ds L D n) (i:Nat):sp ds (ls.map (atL L (ac D i))):=by
 have ha:axOk (⟨ls,ds,[]⟩:Ten).labels (⟨ls,ds,[]⟩:Ten).dims:=h.ax
 refine⟨by simp [h.ax.len],fun k hk=> ?_⟩
 have hk':k<ls.length:=by have:=h.ax.len;omega
 have hm:=h.sup ls[k] (List.getElem_mem hk')
 obtain⟨q,h1,h2,h3,h4⟩:=BH (xs:=ac D i) hm (by simp [aZ,h.dl])
 have h5:=gA D i (fun d hd=>(h.dbd d hd).1) q (by rw[h.dl];exact h1)
 have h7:L[q]=ls[k]:=by rw[zg h1]at h3;simpa using h3
 have h6:D.getD q 0=ds.getD k 0:=by
  rw[h.same q h1 (by rw[h7];exact List.getElem_mem hk'),ab hk,h7]
  exact fK (t:=⟨ls,ds,[]⟩) ha hk' hk
 unfold uM
 have h8:(ls.map (atL L (ac D i))).getD k 0=atL L (ac D i) ls[k]:=by rw[ab (by simpa using hk')];simp
 rw[h8,h4, ← h6]
 exact h5
theorem off (h:InOk ls ds L D n) (i:Nat):dotI (L.map (ai ls ds)) (ac D i)=bw ls ds L D i∧bw ls ds L D i<n:=by
 have h1:=pu h.ax.len (bX h.ax) h.nodup h.sup (xs:=ac D i) (by simp [aZ,h.dl])
 have h2:=Be _ _ _ h.ax (h.idx i)
 have h3:=h.pn
 unfold bw
 rw[h1]
 omega
theorem cut (h:InOk ls ds L D n) {data:List Int} {wd:Nat} (hl:data.length=n*wd) (i:Nat):bw ls ds L D i*wd+wd≤data.length:=by
 rw[hl];exact kC (h.off i).2
theorem dotb (h:InOk ls ds L D n) (i k:Nat):0≤(L.map (ai ls ds)).getD k 0*(ac D i).getD k 0∧(L.map (ai ls ds)).getD k 0*(ac D i).getD k 0≤16777216:=by
 by_cases hk:k<L.length
 ·have hkD:k<D.length:=by rw[h.dl];exact hk
  have h1:=gA D i (fun d hd=>(h.dbd d hd).1) k hkD
  have h2:=h.dbd (D.getD k 0) (by rw[ab hkD];exact List.getElem_mem _)
  have h3:=pq ls ds L[k] (fun d hd=>(h.ax.dim d hd).1)
  have h4:=h.pn
  have h5:=h.n1
  rw[ab (show k<(L.map (ai ls ds)).length by simpa using hk),List.getElem_map]
  generalize (ac D i).getD k 0=x at*
  generalize ai ls ds L[k]=s at*
  refine⟨Int.mul_nonneg h3.1 h1.1, ?_⟩
  have:s*x≤s*8:=Int.mul_le_mul_of_nonneg_left (by omega) h3.1
  omega
 ·have:(L.map (ai ls ds)).getD k 0=0:=by simp [zq,List.getElem?_eq_none (Nat.le_of_not_lt hk)]
  rw[this];simp
end InOk
theorem uH {a b:List Int} (ha:a.Nodup) (hb:b.Nodup):(au a b).Nodup:=by
 unfold au
 refine List.nodup_append.2 ⟨ha,hb.filter _,fun x hx y hy e=> ?_⟩
 subst e
 simp only[List.mem_filter,Bool.not_eq_true',aT]at hy
 exact hy.2 hx
def dAt (L D:List Int) (x:Int):Int:=D.getD (bR L x).toNat 0
theorem AM {L D:List Int} {k:Nat} (hn:L.Nodup) (h:k<L.length):dAt L D L[k]=D.getD k 0:=by
 rw[dAt,gK h (gU hn h)];rfl
def conL (a b:Ten):List Int:=au a.labels b.labels
def conK (a b:Ten) (keep:List Int):List Int:=(conL a b).filter (has keep)
def conD (a b:Ten) (keep:List Int):List Int:=(conK a b keep).map (dAt (conL a b) (aE a b))
def conO (a b:Ten) (keep:List Int) (i:Nat):Nat:=bw (conK a b keep) (conD a b keep) (conL a b) (aE a b) i
def conE (r:Rg) (wd:Nat) (a b:Ten) (i:Nat):List Int:=mulE r (cutE a.data wd (bw a.labels a.dims (conL a b) (aE a b) i)) (cutE b.data wd (bw b.labels b.dims (conL a b) (aE a b) i))
def eN (r:Rg) (wd:Nat) (a b:Ten) (keep z:List Int):Nat→List Int
 | 0=>z
 | i+1=>putE (eN r wd a b keep z i) (conO a b keep i*wd) (addE r (((eN r wd a b keep z i).drop (conO a b keep i*wd)).take wd) (conE r wd a b i))
def conB (r:Rg) (a b:Ten) (keep:List Int):Bool:=
 aD r a.labels a.dims a.data&&aD r b.labels b.dims b.data&&fV a b&&decide (aa (aE a b)≤65536)&&decide (aU (conK a b keep) (conD a b keep)≠ -1)
def conR (r:Rg) (wd:Nat) (a b:Ten) (keep:List Int):Ten:=
 ⟨conK a b keep,conD a b keep,eN r wd a b keep (repE (aA r.k r.p wd) (bC (conD a b keep))) (bC (aE a b))⟩
def conT (r:Rg) (a b:Ten) (keep:List Int):Ten:=bif conB r a b keep then conR r (ah r).toNat a b keep else ⟨[],[],[]⟩
theorem Fr {a b:Ten} {keep xs:List Int} (a10:axOk a.labels a.dims) (b10:axOk b.labels b.dims) (ha:TSz 1048576 a) (hb:TSz 1048576 b) (hx:Sz 1048576 xs):TSz 1048576 (⟨conK a b keep,conD a b keep,xs⟩:Ten):=by
 have hll:=oq a.labels b.labels
 have l1:=a10.1
 have l2:=b10.1
 have hfl:(conK a b keep).length≤24:=by
  have:=gZ (au a.labels b.labels) (au a.labels b.labels).length (has keep)
  rw[List.take_length]at this
  show ((au a.labels b.labels).filter (has keep)).length≤24
  omega
 refine⟨⟨by show (conK a b keep).length≤_;omega,fun x hx=>(ba.1 ((List.mem_filter.1 hx).1)).elim (ha.l.wf x) (hb.l.wf x)⟩,⟨by show (conD a b keep).length≤_;rw[conD,List.length_map];omega,fun x hx=> ?_⟩,hx⟩
 obtain⟨y,hy,rfl⟩:=List.mem_map.1 hx
 rcases Nat.lt_or_ge (bR (conL a b) y).toNat (aE a b).length with h | h
 ·have:=qy a10 b10 (dAt (conL a b) (aE a b) y) (by rw[dAt,ab h];exact List.getElem_mem h)
  exact⟨by omega,by omega⟩
 ·have:dAt (conL a b) (aE a b) y=0:=by simp [dAt,zq,List.getElem?_eq_none h]
  rw[this];exact⟨by omega,by omega⟩
theorem If:Sz 1048576 []:=⟨by simp,by simp⟩
theorem D5 {ds:List Int}:ac ds 0=List.replicate ds.length 0:=by
 refine List.ext_getElem (by simp [aZ]) fun q h1 h2=> ?_
 have h3:q<ds.length:=by simpa [aZ]using h1
 have h5:=lN ds 0 q h3
 rw[ab h1]at h5
 rw[h5]
 simp [sy]
structure ConOk (r:Rg) (a b:Ten) (keep:List Int) (wd na nb n N:Nat):Prop where
 ring:ae r=true
 w:ah r=wd
 wb:1≤wd∧wd≤6
 ja:fV a b=true
 la:a.data.length=na*wd
 lb:b.data.length=nb*wd
 fa:fits r a.data
 fb:fits r b.data
 ia:InOk a.labels a.dims (conL a b) (aE a b) na
 ib:InOk b.labels b.dims (conL a b) (aE a b) nb
 io:InOk (conK a b keep) (conD a b keep) (conL a b) (aE a b) n
 pN:aa (aE a b)=N
 N1:1≤N∧N≤65536
theorem yZ {a b:Ten} {q:Nat} (hq:q<(conL a b).length):(aE a b).getD q 0=if has a.labels (conL a b)[q]=true then ar a (conL a b)[q] else ar b (conL a b)[q]:=by
 have h:q<(aE a b).length:=by simpa [aE,conL]using hq
 rw[ab h]
 simp only[aE,conL,List.getElem_map]
 rfl
theorem Fq {r:Rg} {a b:Ten} {keep:List Int} (h:conB r a b keep=true):∃ wd na nb n N:Nat,ConOk r a b keep wd na nb n N:=by
 simp only[conB,Bool.and_eq_true,decide_eq_true_eq]at h
 obtain⟨⟨⟨⟨h1,h2⟩,h3⟩,h4⟩,h5⟩:=h
 obtain⟨wd,na,a1,a2,a3,a4,a5,a6,a7,a8,a9,a10⟩:=dX h1
 obtain⟨wd',nb,b1,b2,b3,b4,b5,b6,b7,b8,b9,b10⟩:=dX h2
 have hwd:wd'=wd:=by omega
 subst hwd
 have hnd:(conL a b).Nodup:=uH (bX a10) (bX b10)
 have hdl:(aE a b).length=(conL a b).length:=by simp [aE,conL]
 have hdb:=qy a10 b10
 have hpj:=uI a10 b10 (by omega) (by omega)
 obtain⟨c1,c2,c3,c4⟩:=(cQ (conK a b keep) (conD a b keep)).resolve_left h5
 have hsub:∀ x∈conK a b keep,x∈conL a b:=fun x hx=>(List.mem_filter.1 hx).1
 refine⟨wd',na,nb,(aa (conD a b keep)).toNat,(aa (aE a b)).toNat,a9,a1,⟨a3,a4⟩,h3,a7,b7,a8,b8, ?_, ?_, ?_,by omega,by omega⟩
 ·refine⟨a10,a2,⟨a5,a6⟩,hnd,fun x hx=>ba.2 (.inl hx),hdl,hdb,fun q hq hm=> ?_⟩
  rw[yZ hq,if_pos (az.2 hm)];rfl
 ·refine⟨b10,b2,⟨b5,b6⟩,hnd,fun x hx=>ba.2 (.inr hx),hdl,hdb,fun q hq hm=> ?_⟩
  rw[yZ hq]
  split
  ·rename_i hh
   exact uG h3 (az.1 hh) hm
  ·rfl
 ·refine⟨c1,by omega,by omega,hnd,hsub,hdl,hdb,fun q hq hm=> ?_⟩
  obtain⟨i,hi,e1,e2,_⟩:=gk hm
  have e3:ar ⟨conK a b keep,conD a b keep,[]⟩ (conL a b)[q]=(conD a b keep).getD i 0:=by rw[ar,e1];rfl
  have hi':i<(conD a b keep).length:=by simpa [conD]using hi
  rw[e3,ab hi']
  simp only[conD,List.getElem_map,e2]
  exact(AM hnd hq).symm
section
variable {r : Rg} {a b : Ten} {keep : List Int} {wd na nb n N : Nat}
theorem ConOk.pO (h:ConOk r a b keep wd na nb n N):bC (conD a b keep)=n:=by have:=h.io.pn;unfold bC;omega
theorem ConOk.pJ (h:ConOk r a b keep wd na nb n N):bC (aE a b)=N:=by have:=h.pN;unfold bC;omega
theorem ConOk.ca (h:ConOk r a b keep wd na nb n N) (i:Nat):(cutE a.data wd (bw a.labels a.dims (conL a b) (aE a b) i)).length=wd:=nj h.la (h.ia.off i).2
theorem ConOk.cb (h:ConOk r a b keep wd na nb n N) (i:Nat):(cutE b.data wd (bw b.labels b.dims (conL a b) (aE a b) i)).length=wd:=nj h.lb (h.ib.off i).2
theorem ConOk.el (h:ConOk r a b keep wd na nb n N) (i:Nat):(conE r wd a b i).length=wd:=(eZ h.ring h.w (eh h.fa wd _) (eh h.fb wd _) (h.ca i) (h.cb i)).1
theorem ConOk.ef (h:ConOk r a b keep wd na nb n N) (i:Nat):fits r (conE r wd a b i):=re h.ring h.w (eh h.fa wd _) (eh h.fb wd _) (h.ca i) (h.cb i)
theorem vc (h:ConOk r a b keep wd na nb n N) {z:List Int} (hz:z.length=n*wd) (hf:fits r z):∀ i,(eN r wd a b keep z i).length=n*wd∧fits r (eN r wd a b keep z i)
 | 0=>⟨hz,hf⟩
 | i+1=>by
  obtain⟨h1,h2⟩:=vc h hz hf i
  have h3:=h.io.cut h1 i
  have h3:conO a b keep i*wd+wd≤(eN r wd a b keep z i).length:=h3
  have h4:=gW h2 (conO a b keep i*wd) wd
  have h5:=i6 (r:=r) (fw h3) (h.el i)
  rw[eN]
  exact⟨by rw[bQ (by rw[h5];exact h3),h1],ra h2 (s6 h.ring h4 (h.ef i))⟩
theorem ConOk.zl (h:ConOk r a b keep wd na nb n N):(repE (aA r.k r.p wd) n).length=n*wd:=by rw[dJ,bI]
theorem ConOk.zf (h:ConOk r a b keep wd na nb n N):fits r (repE (aA r.k r.p wd) n):=fu fun x hx=>gV (gC h.ring) x (tT n x hx)
theorem Hn (h:ConOk r a b keep wd na nb n N):conR r wd a b keep=⟨conK a b keep,conD a b keep,eN r wd a b keep (repE (aA r.k r.p wd) n) N⟩:=by rw[conR,h.pO,h.pJ]
theorem Fo (hb:conB r a b keep=true) (h:ConOk r a b keep wd na nb n N):conT r a b keep=conR r wd a b keep:=by rw[conT,hb,h.w];rfl
theorem Hm (hb:conB r a b keep=false):conT r a b keep=⟨[],[],[]⟩:=by rw[conT,hb];rfl
end
end Go.Proofs.YtjfmckhbmdjnpaaGreat
namespace Go.Proofs.YtjfmckhbmdjnpaaGreat
open Go.RowKit Go.Lift Plain
set_option maxRecDepth 100000
theorem AQ {r:Rg} (a b:Int):(r.k=1∨r.k=5→add1 r a b=max a b)∧(r.k=3→add1 r a b=min (a+b) r.p)∧(r.k=4→add1 r a b=min a b)∧(r.k=6→add1 r a b=orI a b)∧(r.k=2∨r.k=7∨r.k=8→add1 r a b=(a+b).tmod r.p):=by
 unfold add1
 refine⟨fun h=> ?_,fun h=> ?_,fun h=> ?_,fun h=> ?_,fun h=> ?_⟩
 ·rw[if_pos h]
 ·rw[if_neg (by omega),if_pos h]
 ·rw[if_neg (by omega),if_neg (by omega),if_pos h]
 ·rw[if_neg (by omega),if_neg (by omega),if_neg (by omega),if_pos h]
 ·rw[if_neg (by omega),if_neg (by omega),if_neg (by omega),if_neg (by omega)]
set_option maxHeartbeats 1600000 in
theorem EF {kk pp nn:Int} {x y:List Int} {wd:Nat} (hr:ae ⟨kk,pp,nn⟩=true) (hw:ah ⟨kk,pp,nn⟩=wd) (hx:fits ⟨kk,pp,nn⟩ x) (hy:fits ⟨kk,pp,nn⟩ y) (lx:x.length=wd) (ly:y.length=wd):
  Does Tryz.prog 97 [bm kk pp nn,.d (ints x),.d (ints y)] [] (.own 0 0 wd) [some ⟨1,true,iv (addE ⟨kk,pp,nn⟩ x y)⟩]:=by
 have hwb:=ci hr
 have htb:=dE hr
 have hor:∀ a b:Int,IntKind.i64.wrap (BitVec.ofInt 64 a||| BitVec.ofInt 64 b).toNat=orI a b:=fun _ _=>rfl
 have hal:=i6 (r:=⟨kk,pp,nn⟩) lx ly
 have hrl:(List.replicate wd (0:Int)).length=wd:=by simp
 have hml:(addE ⟨kk,pp,nn⟩ x y).length=(List.replicate wd (0:Int)).length:=by rw[hal,hrl]
 have hlow:=fun h=>(br (r:=⟨kk,pp,nn⟩) hr hx h).2
 simp only at hlow
 (refine spec_of (by kernel_rfl) Tryz.func97 vB (fnOk (nb rfl) ?_);unfold oZ)
 (simp only[Nat.reduceSub,Zl,zn,Nat.reduceAdd,zF];try simp only[af]);(simp only[go_sem,seval,reduceCtorEq,List.replicate])
 refine⟨by omega, ?_⟩
 refine aN (wd) (mkB 96 39614081257132168796771942656) (fun k=>[(14,.d (.int k))]) (fun k=>[(1,iv (mix (addE ⟨kk,pp,nn⟩ x y) (List.replicate wd 0) k))]) (h1:=by first | (simp only[go_sem,seval,reduceCtorEq,nz,na,n1,cl,lx];first | done | rfl) | rfl) (h2:=by first | (simp only[go_sem,seval,reduceCtorEq,nz,na,n1,cl,lx];first | done | rfl) | rfl) (hr:=fun k hk=> ?_)
 unfold nD
 have hmk:(mix (addE ⟨kk,pp,nn⟩ x y) (List.replicate wd 0) k).length=wd:=by rw[iY hml,hal]
 by_cases hlt:k<wd
 ·have d1:(k:Int)<x.length:=by omega
  have d2:(k:Int)<y.length:=by omega
  have d3:(k:Int)<wd:=by omega
  have hkx:k<x.length:=by omega
  have hky:k<y.length:=by omega
  have gx:x[k]? =some x[k]:=zg hkx
  have gy:y[k]? =some y[k]:=zg hky
  have bx:=hx k hkx
  have bY:=hy k hky
  rw[ab hkx]at bx
  rw[ab hky]at bY
  have hm:=fG hml (vq (r:=⟨kk,pp,nn⟩) hkx hky)
  obtain⟨a1,a2,a3,a4,a5⟩:=AQ (r:=⟨kk,pp,nn⟩) x[k] y[k]
  simp only at a1 a2 a3 a4 a5
  generalize hae:x[k]=a at*
  generalize hbe:y[k]=b at*
  rcases aL hr with h | h | h | h | h | h | h | h<;>simp only at h<;>obtain⟨rfl,h⟩:=h
  ·have ho:orI a b=max a b:=by simp only[top,if_true]at bx bY;exact ID bx bY
   simp(disch:=omega) only[go_sem,seval,reduceCtorEq,lx,ly,d1,d2,d3,gx,gy,hor,ho, ← a1 (.inl rfl)]
   refine⟨by omega, ?_⟩
   (refine Next.drop (mkB 96 39614081257132168796771942656) (by omega) (h1:= ?_) (h2:= ?_)<;>first | (simp only[go_sem,seval,reduceCtorEq,nz,na,n1,hm];first | done | rfl) | rfl | skip)
  ·have hp:=hlow (.inl rfl)
   have hp0:pp≠0:=by omega
   simp(disch:=omega) only[go_sem,seval,reduceCtorEq,lx,ly,d1,d2,d3,gx,gy,hp0,ne_eq,not_false_eq_true, ← a5 (.inl rfl)]
   refine⟨by omega, ?_⟩
   (refine Next.drop (mkB 96 39614081257132168796771942656) (by omega) (h1:= ?_) (h2:= ?_)<;>first | (simp only[go_sem,seval,reduceCtorEq,nz,na,n1,hm];first | done | rfl) | rfl | skip)
  ·simp(disch:=omega) only[go_sem,seval,reduceCtorEq,lx,ly,d1,d2,d3,gx,gy, ← a2 rfl]
   refine⟨by omega, ?_⟩
   (refine Next.drop (mkB 96 39614081257132168796771942656) (by omega) (h1:= ?_) (h2:= ?_)<;>first | (simp only[go_sem,seval,reduceCtorEq,nz,na,n1,hm];first | done | rfl) | rfl | skip)
  ·simp(disch:=omega) only[go_sem,seval,reduceCtorEq,lx,ly,d1,d2,d3,gx,gy, ← a3 rfl]
   refine⟨by omega, ?_⟩
   (refine Next.drop (mkB 96 39614081257132168796771942656) (by omega) (h1:= ?_) (h2:= ?_)<;>first | (simp only[go_sem,seval,reduceCtorEq,nz,na,n1,hm];first | done | rfl) | rfl | skip)
  ·simp(disch:=omega) only[go_sem,seval,reduceCtorEq,lx,ly,d1,d2,d3,gx,gy, ← a1 (.inr rfl)]
   refine⟨by omega, ?_⟩
   (refine Next.drop (mkB 96 39614081257132168796771942656) (by omega) (h1:= ?_) (h2:= ?_)<;>first | (simp only[go_sem,seval,reduceCtorEq,nz,na,n1,hm];first | done | rfl) | rfl | skip)
  ·simp(disch:=omega) only[go_sem,seval,reduceCtorEq,lx,ly,d1,d2,d3,gx,gy,hor, ← a4 rfl]
   refine⟨by omega, ?_⟩
   (refine Next.drop (mkB 96 39614081257132168796771942656) (by omega) (h1:= ?_) (h2:= ?_)<;>first | (simp only[go_sem,seval,reduceCtorEq,nz,na,n1,hm];first | done | rfl) | rfl | skip)
  ·have hp:=hlow (.inr (.inl rfl))
   have hp0:pp≠0:=by omega
   simp(disch:=omega) only[go_sem,seval,reduceCtorEq,lx,ly,d1,d2,d3,gx,gy,hp0,ne_eq,not_false_eq_true, ← a5 (.inr (.inl rfl))]
   refine⟨by omega, ?_⟩
   (refine Next.drop (mkB 96 39614081257132168796771942656) (by omega) (h1:= ?_) (h2:= ?_)<;>first | (simp only[go_sem,seval,reduceCtorEq,nz,na,n1,hm];first | done | rfl) | rfl | skip)
  ·have hp:=hlow (.inr (.inr rfl))
   have hp0:pp≠0:=by omega
   simp(disch:=omega) only[go_sem,seval,reduceCtorEq,lx,ly,d1,d2,d3,gx,gy,hp0,ne_eq,not_false_eq_true, ← a5 (.inr (.inr rfl))]
   refine⟨by omega, ?_⟩
   (refine Next.drop (mkB 96 39614081257132168796771942656) (by omega) (h1:= ?_) (h2:= ?_)<;>first | (simp only[go_sem,seval,reduceCtorEq,nz,na,n1,hm];first | done | rfl) | rfl | skip)
 ·have d1:¬ (k:Int)<wd:=by omega
  have hm:mix (addE ⟨kk,pp,nn⟩ x y) (List.replicate wd 0) k=addE ⟨kk,pp,nn⟩ x y:=gQ (by omega) (by omega)
  simp(disch:=omega) only[go_sem,seval,reduceCtorEq,lx,d1,hm]
  (refine zE ?_ ?_<;>try simp only[go_sem,seval,reduceCtorEq])
set_option maxHeartbeats 1600000 in
theorem Dj {kk pp nn:Int} {xs y:List Int} {off wd:Nat} (hr:ae ⟨kk,pp,nn⟩=true) (hw:ah ⟨kk,pp,nn⟩=wd) (hx:fits ⟨kk,pp,nn⟩ ((xs.drop off).take wd)) (hy:fits ⟨kk,pp,nn⟩ y) (ly:y.length=wd) (ho:off+wd≤xs.length) (hl:xs.length≤1099511627776):
  Does Tryz.prog 83 [bm kk pp nn,.own 0 off wd,.d (ints y)] [some ⟨1,false,iv xs⟩] (.tup []) [some ⟨1,false,iv (putE xs off (addE ⟨kk,pp,nn⟩ ((xs.drop off).take wd) y))⟩]:=by
 have hwb:=ci hr
 have htb:=dE hr
 have hor:∀ a b:Int,IntKind.i64.wrap (BitVec.ofInt 64 a||| BitVec.ofInt 64 b).toNat=orI a b:=fun _ _=>rfl
 have lx:((xs.drop off).take wd).length=wd:=by rw[List.length_take,List.length_drop];omega
 have hput0:putE xs off ((xs.drop off).take wd)=xs:=by
  unfold putE
  rw[lx,List.append_assoc, ← List.drop_drop,List.take_append_drop,List.take_append_drop]
 have hlow:=fun h=>(br (r:=⟨kk,pp,nn⟩) hr hx h).2
 simp only at hlow
 generalize hcx:(xs.drop off).take wd=x at*
 have hal:=i6 (r:=⟨kk,pp,nn⟩) lx ly
 have hml:(addE ⟨kk,pp,nn⟩ x y).length=x.length:=by rw[hal,lx]
 have hgx:∀ k,k<wd→xs[off+k]? =some (x.getD k 0):=fun k hk=>by
  have h1:=tf (xs:=xs) (ys:=x) (off:=off) (k:=k) (by omega) (by omega)
  rwa [hput0]at h1
 (refine spec_of (by kernel_rfl) Tryz.func83 uD (fnOk (nb rfl) ?_);unfold o4)
 (simp only[Nat.reduceSub,Zl,zn,Nat.reduceAdd,zF];try simp only[af]);(simp only[go_sem,seval,reduceCtorEq,List.replicate])
 by_cases hpoly:kk=2∨kk=7∨kk=8
 ·have hp:=hlow hpoly
  have hp0:pp≠0:=by omega
  have k1:(kk==1)=false:=by simp;omega
  have k3:(kk==3)=false:=by simp;omega
  have k4:(kk==4)=false:=by simp;omega
  have k5:(kk==5)=false:=by simp;omega
  have k6:(kk==6)=false:=by simp;omega
  simp(disch:=omega) only[go_sem,seval,reduceCtorEq,k1,k3,k4,k5,k6]
  have hpm0:putE xs off (mix (addE ⟨kk,pp,nn⟩ x y) x 0)=xs:=by rw[cl,hput0]
  refine aN (wd) (mkB 77 1073737792) (fun k=>[(11,.d (.int k))]) (fun k=>[(0,iv (putE xs off (mix (addE ⟨kk,pp,nn⟩ x y) x k)))]) (h1:=by first | (simp only[go_sem,seval,reduceCtorEq,nz,na,n1,hpm0];first | done | rfl) | rfl) (h2:=by first | (simp only[go_sem,seval,reduceCtorEq,nz,na,n1,hpm0];first | done | rfl) | rfl) (hr:=fun k hk=> ?_)
  unfold mj
  have hmk:(mix (addE ⟨kk,pp,nn⟩ x y) x k).length=wd:=by rw[iY hml,hal]
  have hpl:=bQ (xs:=xs) (off:=off) (ys:=mix (addE ⟨kk,pp,nn⟩ x y) x k) (by omega)
  by_cases hlt:k<wd
  ·have d1:(k:Int)<wd:=by omega
   have d2:(k:Int)<y.length:=by omega
   have hkx:k<x.length:=by omega
   have hky:k<y.length:=by omega
   have gy:y[k]? =some y[k]:=zg hky
   have bx:=hx k hkx
   have bY:=hy k hky
   rw[ab hkx]at bx
   rw[ab hky]at bY
   have hgm:(mix (addE ⟨kk,pp,nn⟩ x y) x k).getD k 0=x[k]:=by
    rw[zq,Bi hml,if_neg (by omega),zg hkx];rfl
   have gm:=tf (xs:=xs) (ys:=mix (addE ⟨kk,pp,nn⟩ x y) x k) (off:=off) (k:=k) (by omega) (by omega)
   rw[hgm]at gm
   have hm:=fG hml (vq (r:=⟨kk,pp,nn⟩) hkx hky)
   have hq:=tX (xs:=xs) (ys:=mix (addE ⟨kk,pp,nn⟩ x y) x k) (off:=off) (k:=k) (v:=add1 ⟨kk,pp,nn⟩ x[k] y[k]) (by omega) (by omega)
   rw[← cD (by omega),hm]at hq
   have a5:=(AQ (r:=⟨kk,pp,nn⟩) x[k] y[k]).2.2.2.2 hpoly
   simp only at a5
   generalize hae:x[k]=a at*
   generalize hbe:y[k]=b at*
   simp(disch:=omega) only[go_sem,seval,reduceCtorEq,d1,d2,gm,gy,hp0,ne_eq,not_false_eq_true, ← a5]
   refine⟨by omega, ?_⟩
   (refine Next.drop (mkB 77 1073737792) (by omega) (h1:= ?_) (h2:= ?_)<;>first | (simp only[go_sem,seval,reduceCtorEq,nz,na,n1,hq];first | done | rfl) | rfl | skip)
  ·have d1:¬ (k:Int)<wd:=by omega
   have hm:mix (addE ⟨kk,pp,nn⟩ x y) x k=addE ⟨kk,pp,nn⟩ x y:=gQ (by omega) (by omega)
   simp(disch:=omega) only[go_sem,seval,reduceCtorEq,d1,hm]
   (refine zE ?_ ?_<;>try simp only[go_sem,seval,reduceCtorEq])
 have hwd1:wd=1:=by have:=nc (r:=⟨kk,pp,nn⟩) hr (by simp only;omega);omega
 subst hwd1
 have gx:=hgx 0 (by omega)
 have gy:y[0]? =some (y.getD 0 0):=by rw[ab (by omega)];exact zg (by omega)
 have bx:=hx 0 (by omega)
 have bY:=hy 0 (by omega)
 have c1:(0:Int)<(1:Nat):=by omega
 have c3:(0:Int)<y.length:=by omega
 have c4:off+1≤xs.length:=by omega
 have he:addE ⟨kk,pp,nn⟩ x y=[add1 ⟨kk,pp,nn⟩ (x.getD 0 0) (y.getD 0 0)]:=by
  match x,y,lx,ly with
  | [a],[b],_,_=>rfl
 have hput:∀ v:Int,xs.take off++[v]++xs.drop (off+1)=putE xs off [v]:=fun v=>rfl
 obtain⟨a1,a2,a3,a4,a5⟩:=AQ (r:=⟨kk,pp,nn⟩) (x.getD 0 0) (y.getD 0 0)
 simp only at a1 a2 a3 a4 a5
 rw[Nat.add_zero]at gx
 generalize hae:x.getD 0 0=a at*
 generalize hbe:y.getD 0 0=b at*
 rcases aL hr with h | h | h | h | h | h | h | h<;>simp only at h<;>obtain⟨rfl,h⟩:=h
 ·simp(disch:=omega) only[go_sem,seval,reduceCtorEq,gx,gy,c1,c3,c4]
  (refine zE ?_ ?_<;>try simp only[go_sem,seval,reduceCtorEq])
  rw[hput,he,a1 (.inl rfl)]
 ·exact absurd (.inl rfl) hpoly
 ·simp(disch:=omega) only[go_sem,seval,reduceCtorEq,gx,gy,c1,c3,c4]
  (refine zE ?_ ?_<;>try simp only[go_sem,seval,reduceCtorEq])
  rw[hput,he,a2 rfl]
 ·simp(disch:=omega) only[go_sem,seval,reduceCtorEq,gx,gy,c1,c3,c4]
  (refine zE ?_ ?_<;>try simp only[go_sem,seval,reduceCtorEq])
  rw[hput,he,a3 rfl]
 ·simp(disch:=omega) only[go_sem,seval,reduceCtorEq,gx,gy,c1,c3,c4]
  (refine zE ?_ ?_<;>try simp only[go_sem,seval,reduceCtorEq])
  rw[hput,he,a1 (.inr rfl)]
 ·simp(disch:=omega) only[go_sem,seval,reduceCtorEq,gx,gy,c1,c3,c4]
  (refine zE ?_ ?_<;>try simp only[go_sem,seval,reduceCtorEq])
  rw[hput,hor,he,a4 rfl]
 ·exact absurd (.inr (.inl rfl)) hpoly
 ·exact absurd (.inr (.inr rfl)) hpoly
def alR (r:Rg) (a b:Ten):Ten:=bif alB r a b then ⟨a.labels,a.dims,(alT r a b).data⟩ else ⟨[],[],[]⟩
set_option maxRecDepth 100000
theorem Ao {ls keep:List Int} (h:ls.length≤1048576) (hk:keep.length≤1048576):Does Tryz.prog 75 [.d (ints ls),.d (ints keep)] [] (.own 0 0 (ls.filter (has keep)).length) [some ⟨1,true,iv (ls.filter (has keep))⟩]:=by
 (refine spec_of (by kernel_rfl) Tryz.func75 sO (fnOk (nb rfl) ?_);unfold mw)
 (simp only[Nat.reduceSub,Zl,zn,Nat.reduceAdd,zF];try simp only[af]);(simp only[go_sem,seval,reduceCtorEq,List.replicate])
 (refine dr (Wk.nilE 5 1 _ _ rfl) ?_;simp only[go_sem,seval,reduceCtorEq])
 refine aN (ls.length) (mkB 23 4192384) (fun k=>[(5,.own 0 0 ((ls.take k).filter (has keep)).length),(10,.d (.int k))]) (fun k=>[(0,iv ((ls.take k).filter (has keep)))]) (h1:=by first | (simp only[go_sem,seval,reduceCtorEq,nz,na,n1,List.take_zero,List.filter_nil,bK];first | done | rfl) | rfl) (h2:=by first | (simp only[go_sem,seval,reduceCtorEq,nz,na,n1,List.take_zero,List.filter_nil,bK];first | done | rfl) | rfl) (hr:=fun k hk=> ?_)
 unfold kT
 have hfl:=gZ ls k (has keep)
 by_cases hlt:k<ls.length
 ·have d1:(k:Int)<ls.length:=by omega
  have g:ls[k]? =some ls[k]:=zg hlt
  simp(disch:=omega) only[go_sem,seval,reduceCtorEq,d1,g]
  (refine zC (cm (xs:=keep) (x:=ls[k]) (by omega)) ?_)
  cases hh:has keep ls[k]
  ·have e:=kJ (p:=has keep) hlt hh
   simp(disch:=omega) only[go_sem,seval,reduceCtorEq,hh]
   (refine Next.drop (mkB 23 4192384) (by omega) (h1:= ?_) (h2:= ?_)<;>first | (simp only[go_sem,seval,reduceCtorEq,nz,na,n1,e];first | done | rfl) | rfl | skip)
  ·have e:=gY (p:=has keep) hlt hh
   simp(disch:=omega) only[go_sem,seval,reduceCtorEq,hh]
   (repeat (refine And.intro (by omega) ?_))
   (refine Next.drop (mkB 23 4192384) (by omega) (h1:= ?_) (h2:= ?_)<;>first | (simp only[go_sem,seval,reduceCtorEq,nz,na,n1,e,List.length_append];first | done | rfl) | rfl | skip)
 ·have d1:¬ (k:Int)<ls.length:=by omega
  obtain rfl:k=ls.length:=by omega
  simp(disch:=omega) only[go_sem,seval,reduceCtorEq,d1,List.take_length]
  (refine zE ?_ ?_<;>try simp only[go_sem,seval,reduceCtorEq])
theorem vO {kk pp:Int} {wd:Nat} (h:1≤wd) (h4:kk=4):iv (aA kk pp wd)=.d (.int pp) :: iv (List.drop 1 (List.replicate wd (0:Int))):=by
 obtain⟨w,rfl⟩:∃ w,wd=w+1:=⟨wd-1,by omega⟩
 unfold aA
 rw[if_pos h4]
 rfl
theorem C7 {kk pp nn:Int} {wd:Nat} (hw:ah ⟨kk,pp,nn⟩=wd) (h1:1≤wd∧wd≤6):Does Tryz.prog 77 [bm kk pp nn] [] (.own 0 0 wd) [some ⟨1,true,iv (aA kk pp wd)⟩]:=by
 have hz:=bI kk pp wd
 (refine spec_of (by kernel_rfl) Tryz.func77 uz (fnOk (nb rfl) ?_);unfold nX)
 (simp only[Nat.reduceSub,Zl,zn,Nat.reduceAdd,zF];try simp only[af]);(simp only[go_sem,seval,reduceCtorEq,List.replicate])
 (refine aV (eX kk pp nn) ?_ ?_ ?_;(focus (simp only[go_sem,seval,reduceCtorEq,hw];done));(first | rfl | (focus (simp only[go_sem];done))))
 simp(disch:=omega) only[go_sem,seval,reduceCtorEq,hw]
 refine And.intro ⟨by omega,by omega⟩ ?_
 by_cases h4:kk=4
 ·have c:(kk==4)=true:=by simp [h4]
  have e:=vO (pp:=pp) h1.1 h4
  have hlr:(List.replicate wd (0:Int)).length=wd:=List.length_replicate
  simp(disch:=omega) only[go_sem,seval,reduceCtorEq,c]
  refine⟨by omega,by rw[hlr];omega, ?_⟩
  rw[e]
  (refine zE ?_ ?_<;>try simp only[go_sem,seval,reduceCtorEq])
 ·have c:(kk==4)=false:=by simp [h4]
  have e:aA kk pp wd=List.replicate wd 0:=by rw[aA,if_neg h4]
  simp(disch:=omega) only[go_sem,seval,reduceCtorEq,c,e]
  (refine zE ?_ ?_<;>try simp only[go_sem,seval,reduceCtorEq])
theorem wr {kk pp nn:Int} {wd:Nat} (hw:ah ⟨kk,pp,nn⟩=wd) (h1:1≤wd∧wd≤6):Does Tryz.prog 121 [bm kk pp nn] [] (.own 0 0 wd) [some ⟨1,true,iv (aA kk pp wd)⟩]:=by
 have hz:=bI kk pp wd
 (refine spec_of (by kernel_rfl) Tryz.func121 ut (fnOk (nb rfl) ?_);unfold nR)
 (simp only[Nat.reduceSub,Zl,zn,Nat.reduceAdd,zF];try simp only[af]);(simp only[go_sem,seval,reduceCtorEq,List.replicate])
 (refine aV (f8 kk pp nn) ?_ ?_ ?_;(focus (simp only[go_sem,seval,reduceCtorEq,hw];done));(first | rfl | (focus (simp only[go_sem];done))))
 simp(disch:=omega) only[go_sem,seval,reduceCtorEq,hw]
 refine And.intro ⟨by omega,by omega⟩ ?_
 by_cases h4:kk=4
 ·have c:(kk==4)=true:=by simp [h4]
  have e:=vO (pp:=pp) h1.1 h4
  have hlr:(List.replicate wd (0:Int)).length=wd:=List.length_replicate
  simp(disch:=omega) only[go_sem,seval,reduceCtorEq,c]
  refine⟨by omega,by rw[hlr];omega, ?_⟩
  rw[e]
  (refine zE ?_ ?_<;>try simp only[go_sem,seval,reduceCtorEq])
 ·have c:(kk==4)=false:=by simp [h4]
  have e:aA kk pp wd=List.replicate wd 0:=by rw[aA,if_neg h4]
  simp(disch:=omega) only[go_sem,seval,reduceCtorEq,c,e]
  (refine zE ?_ ?_<;>try simp only[go_sem,seval,reduceCtorEq])
theorem wn {kk pp nn:Int} {wd n:Nat} {ls ds:List Int} (hw:ah ⟨kk,pp,nn⟩=wd) (h1:1≤wd∧wd≤6) (hls:ls.length≤1048576) (hds:ds.length≤1048576) (hd:∀ d∈ds,1≤d∧d≤100) (hn:aa ds=n) (hn2:n≤4096):
  Does Tryz.prog 92 [bm kk pp nn,.d (ints ls),.d (ints ds)] [] (ownT 0 ⟨ls,ds,repE (aA kk pp wd) n⟩) (stoT ⟨ls,ds,repE (aA kk pp wd) n⟩):=by
 have hz:=bI kk pp wd
 have hmn:min (aa ds) 4097=(n:Int):=by omega
 (refine spec_of (by kernel_rfl) Tryz.func92 ul (fnOk (nb rfl) ?_);unfold nL)
 (simp only[Nat.reduceSub,Zl,zn,Nat.reduceAdd,zF];try simp only[af]);(simp only[go_sem,seval,reduceCtorEq,List.replicate])
 (refine zC (om (xs:=ls) (by omega)) ?_)
 simp only[go_sem,seval,reduceCtorEq]
 (refine zC (om (xs:=ds) (by omega)) ?_)
 simp only[go_sem,seval,reduceCtorEq]
 (refine aV (gf (ds:=ds) (lim:=4096) (by omega) hd (by omega)) ?_ ?_ ?_;(focus (simp only[go_sem,seval,reduceCtorEq,hmn];done));(first | rfl | (focus (simp only[go_sem];done))))
 simp only[go_sem,seval,reduceCtorEq,hmn]
 (refine dr (Wk.nilS 4 2 1 _ _ _ rfl rfl) ?_;simp only[go_sem,seval,reduceCtorEq])
 have hr0:repE (aA kk pp wd) 0=[]:=rfl
 refine aN (n) (mkB 27 67043328) (fun k=>[(8,.d (.int ((n:Int)-k)))]) (fun k=>[(4,[.own 2 0 ls.length,.own 3 0 ds.length,.own 5 0 (repE (aA kk pp wd) k).length]),(5,iv (repE (aA kk pp wd) k))]) (h1:=by first | (simp only[go_sem,seval,reduceCtorEq,nz,na,n1,hr0,bK,Int.sub_zero];first | done | rfl) | rfl) (h2:=by first | (simp only[go_sem,seval,reduceCtorEq,nz,na,n1,hr0,bK,Int.sub_zero];first | done | rfl) | rfl) (hr:=fun k hk=> ?_)
 unfold m8
 have hrl:=dJ (aA kk pp wd) k
 have hkw:k*wd≤4096*6:=Nat.mul_le_mul (by omega) h1.2
 rw[hz]at hrl
 by_cases hlt:k<n
 ·have d1:(n:Int)-k>0:=by omega
  have e8:(n:Int)-k-1=(n:Int)-(k+1):=by omega
  simp(disch:=omega) only[go_sem,seval,reduceCtorEq,d1]
  (refine zD (wr (kk:=kk) (pp:=pp) (nn:=nn) hw h1) ?_)
  have htz:List.take wd (aA kk pp wd)=aA kk pp wd:=zt (by omega)
  have hle:(wd≤wd)=True:=by simp
  simp(disch:=omega) only[go_sem,seval,reduceCtorEq,hz,htz,hle,if_true]
  (repeat (refine And.intro (by omega) ?_))
  have hrn:repE (aA kk pp wd) (k+1)=repE (aA kk pp wd) k++aA kk pp wd:=rfl
  (refine Next.drop (mkB 27 67043328) (by omega) (h1:= ?_) (h2:= ?_)<;>first | (simp only[go_sem,seval,reduceCtorEq,nz,na,n1,hrn,e8,List.length_append,hz];first | done | rfl) | rfl | skip)
 ·have d1:¬ (n:Int)-k>0:=by omega
  obtain rfl:k=n:=by omega
  simp(disch:=omega) only[go_sem,seval,reduceCtorEq,d1]
  (refine zE ?_ ?_<;>try simp only[go_sem,seval,reduceCtorEq])
theorem xF {kk pp nn:Int} {wd n:Nat} {ls ds z:List Int} (hz:z.length=wd) (h1:1≤wd∧wd≤6) (hls:ls.length≤1048576) (hds:ds.length≤1048576) (hd:∀ d∈ds,1≤d) (hn:aa ds=n) (hn2:n≤4096):
  Does Tryz.prog 76 [bm kk pp nn,.d (ints ls),.d (ints ds),.d (ints z)] [] (ownT 0 ⟨ls,ds,repE z n⟩) (stoT ⟨ls,ds,repE z n⟩):=by
 (refine spec_of (by kernel_rfl) Tryz.func76 qu (fnOk (nb rfl) ?_);unfold kc)
 (simp only[Nat.reduceSub,Zl,zn,Nat.reduceAdd,zF];try simp only[af]);(simp only[go_sem,seval,reduceCtorEq,List.replicate])
 (refine zC (dU (xs:=ls) (by omega)) ?_)
 simp only[go_sem,seval,reduceCtorEq]
 (refine zC (dU (xs:=ds) (by omega)) ?_)
 simp only[go_sem,seval,reduceCtorEq]
 (refine zC (sb (ds:=ds) (by omega) hd (by omega)) ?_)
 have hnw:n*wd≤4096*6:=Nat.mul_le_mul hn2 h1.2
 have hm:((n:Int)*(z.length:Int))=((n*wd:Nat):Int):=by rw[hz,Int.natCast_mul]
 simp(disch:=omega) only[go_sem,seval,reduceCtorEq,hn,hm]
 refine And.intro (by omega) ?_
 have hr0:repE z 0=[]:=rfl
 refine aN (n) (mkB 36 34334572544) (fun k=>[(11,.d (.int k))]) (fun k=>[(4,[.own 2 0 ls.length,.own 3 0 ds.length,.own 5 0 (repE z k).length]),(5,iv (repE z k))]) (h1:=by first | (simp only[go_sem,seval,reduceCtorEq,nz,na,n1,hr0,bK,zn];first | done | rfl) | rfl) (h2:=by first | (simp only[go_sem,seval,reduceCtorEq,nz,na,n1,hr0,bK,zn];first | done | rfl) | rfl) (hr:=fun k hk=> ?_)
 unfold il
 have hrl:=dJ z k
 have hkw:k*wd≤4096*6:=Nat.mul_le_mul (by omega) h1.2
 rw[hz]at hrl
 by_cases hlt:k<n
 ·have d1:(k:Int)<n:=by omega
  have hrn:repE z (k+1)=repE z k++z:=rfl
  simp(disch:=omega) only[go_sem,seval,reduceCtorEq,d1]
  (repeat (refine And.intro (by omega) ?_))
  (refine Next.drop (mkB 36 34334572544) (by omega) (h1:= ?_) (h2:= ?_)<;>first | (simp only[go_sem,seval,reduceCtorEq,nz,na,n1,hrn,List.length_append];first | done | rfl) | rfl | skip)
 ·have d1:¬ (k:Int)<n:=by omega
  obtain rfl:k=n:=by omega
  simp(disch:=omega) only[go_sem,seval,reduceCtorEq,d1]
  (refine zE ?_ ?_<;>try simp only[go_sem,seval,reduceCtorEq])
set_option maxRecDepth 100000
theorem Ko:dv []=[]:=nr rfl
end Go.Proofs.YtjfmckhbmdjnpaaGreat
