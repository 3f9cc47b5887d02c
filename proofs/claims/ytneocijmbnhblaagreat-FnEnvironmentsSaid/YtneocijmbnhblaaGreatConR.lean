/-
 Contracts: labels fused. No condition.
-/
import Derived.Test.YtneocijmbnhblaaGreatMgEnvironmentsA
import Derived.Test.YtneocijmbnhblaaGreatConM
import Derived.Test.YtneocijmbnhblaaGreatCoD
set_option linter.unusedSimpArgs false
set_option linter.unusedVariables false
namespace Go.Proofs.YtneocijmbnhblaaGreat
open Go.RowKit Go.Lift Plain
set_option maxRecDepth 100000
def fuL (t:Ten) (L:List Int) (x:Int):List Int:=wol t.labels L++[x]
def fuD (t:Ten) (L:List Int):List Int:=aG t (wol t.labels L)++[ab (aG t L)]
structure FuOk (r:Rg) (t:Ten) (L:List Int) (x:Int) (wd n:Nat):Prop where
 w:ar r=wd
 p:PermOk t (wol t.labels L++L) wd n
 ok:∀ x,aA r (fuL t L x) (fuD t L) (bz wd t (wol t.labels L++L)).data=decide (be (fuL t L x) (fuD t L)≠ -1)
 pl:ab (aG t L)≤4096∧1≤ab (aG t L)
 dl:∀ d∈aG t L,1≤d∧d≤8
 len:(wol t.labels L).length≤12∧L.length≤12
 dle:((bz wd t (wol t.labels L++L)).data.length)≤24576
def add1 (r:Rg) (a b:Int):Int:=
 if r.k=1∨r.k=5 then max a b else if r.k=3 then min (a+b) r.p else if r.k=4 then min a b else if r.k=6 then orI a b else (a+b).tmod r.p
def addE (r:Rg) (x y:List Int):List Int:=List.zipWith (add1 r) x y
theorem A3 (a b:Int):orI a b=orI b a:=by unfold orI;rw[BitVec.or_comm]
theorem yV (r:Rg) (a b:Int):add1 r a b=add1 r b a:=by
 unfold add1
 rw[Int.max_comm,Int.add_comm,Int.min_comm a b,A3]
theorem sL (r:Rg) (x y:List Int):addE r x y=addE r y x:=by
 unfold addE
 rw[List.zipWith_comm]
 congr 1
 funext a b
 exact yV r b a
theorem eR {r:Rg} {x y:List Int} {n:Nat} (h:x.length=n) (h':y.length=n):(addE r x y).length=n:=by simp [addE,h,h']
theorem r8 {r:Rg} {x y:List Int} {k:Nat} (h:k<x.length) (h':k<y.length):(addE r x y)[k]? =some (add1 r x[k] y[k]):=by rw[addE,List.getElem?_zipWith,List.getElem?_eq_getElem h,List.getElem?_eq_getElem h']
def cutE (x:List Int) (wd k:Nat):List Int:=(x.drop (k*wd)).take wd
def opP (f:List Int→List Int→List Int) (x y:List Int) (wd:Nat):Nat→List Int
 | 0=>[]
 | k+1=>opP f x y wd k++f (cutE x wd k) (cutE y wd k)
def opTo (f:List Int→List Int→List Int) (x y z:List Int) (wd k:Nat):List Int:=opP f x y wd k++z.drop (k*wd)
section
variable {f : List Int → List Int → List Int} {x y z : List Int} {wd n k : Nat}
theorem dH (h:x.length=n*wd) (hk:k<n):(cutE x wd k).length=wd:=by
 have:=dX (wd:=wd) hk
 unfold cutE
 rw[List.length_take,List.length_drop]
 omega
theorem iY (hf:∀ k,k<n→(f (cutE x wd k) (cutE y wd k)).length=wd):∀ k,k≤n→(opP f x y wd k).length=k*wd
 | 0,_=>by simp [opP]
 | k+1,h=>by
  rw[opP,List.length_append,iY hf k (by omega),hf k (by omega),Nat.add_mul,Nat.one_mul]
theorem rT:opTo f x y z wd 0=z:=by simp [opTo,opP]
theorem A8 (h:z.length=n*wd):opTo f x y z wd n=opP f x y wd n:=by simp [opTo,h]
theorem A5 (hf:∀ k,k<n→(f (cutE x wd k) (cutE y wd k)).length=wd) (h:z.length=n*wd) (hk:k≤n):(opTo f x y z wd k).length=n*wd:=by
 have:=Nat.mul_le_mul_right wd hk
 rw[opTo,List.length_append,iY hf k hk,List.length_drop]
 omega
theorem A7 (hf:∀ k,k<n→(f (cutE x wd k) (cutE y wd k)).length=wd) (hk:k≤n):cutE (opTo f x y z wd k) wd k=cutE z wd k:=by
 have hl:=iY hf k hk
 unfold cutE opTo
 rw[List.drop_append_of_le_length (by omega),List.drop_of_length_le (by omega),List.nil_append]
theorem A4 (hf:∀ k,k<n→(f (cutE x wd k) (cutE y wd k)).length=wd) (hk:k<n):putE (opTo f x y z wd k) (k*wd) (f (cutE x wd k) (cutE y wd k))=opTo f x y z wd (k+1):=by
 have hl:=iY hf k (by omega)
 unfold putE opTo
 rw[List.take_append_of_le_length (by omega),List.take_of_length_le (by omega),hf k hk,List.drop_append,List.drop_of_length_le (by omega),List.nil_append,opP,List.drop_drop,Nat.add_mul,Nat.one_mul]
 congr 2
 omega
theorem uO (hf:∀ a b,f a b=f b a):∀ k,opP f x y wd k=opP f y x wd k
 | 0=>rfl
 | k+1=>by rw[opP,opP,uO hf k,hf]
end
theorem pL {ls L:List Int} (hn:ls.Nodup) (h:gM ls L=true):gM L ls=true:=by
 obtain⟨h1,h2⟩:=of_decide_eq_true h
 have hL:L.Nodup:=gn fun k hk=>(h2 k hk).2
 have hs:∀ x∈L,x∈ls:=fun x hx=>by
  obtain⟨k,hk,rfl⟩:=List.mem_iff_getElem.1 hx
  exact(h2 k hk).1
 exact decide_eq_true ⟨h1.symm,fun k hk=>⟨pG hL hs (by omega) _ (List.getElem_mem hk),ec hn hk⟩⟩
def alS (r:Rg) (a b:Ten):Bool:=aA r a.labels a.dims a.data&&aA r b.labels b.dims b.data&&gM a.labels b.labels
def alB (r:Rg) (a b:Ten):Bool:=alS r a b&&decide (aG b a.labels=a.dims)
def alT (r:Rg) (a b:Ten):Ten:=bz (ar r).toNat b a.labels
structure AlOk (r:Rg) (a b:Ten) (wd n:Nat):Prop where
 ring:aq r=true
 w:ar r=wd
 wb:1≤wd∧wd≤6
 pa:ab a.dims=n
 n1:1≤n∧n≤4096
 ax:axOk a.labels a.dims
 la:a.data.length=n*wd
 lb:(alT r a b).data.length=n*wd
 fa:fits r a.data
 fb:fits r (alT r a b).data
 dims:aG b a.labels=a.dims
theorem xG {r:Rg} {a b:Ten} (h:alB r a b=true):∃ wd n:Nat,AlOk r a b wd n:=by
 simp only[alB,alS,Bool.and_eq_true,decide_eq_true_eq]at h
 obtain⟨⟨⟨ha,hb⟩,hs⟩,hd⟩:=h
 obtain⟨wd,n,e1,e2,e3,e4,e5,e6,e7,e8,e9,e10⟩:=cD ha
 obtain⟨wd',n',f1,f2,hp⟩:=t4 hb (pL (bG e10) hs)
 have hww:wd'=wd:=by omega
 subst hww
 have hal:alT r a b=bz wd' b a.labels:=by unfold alT;rw[f1];rfl
 have h8:fits r b.data:=(cD hb).choose_spec.choose_spec.2.2.2.2.2.2.2.1
 refine⟨wd',n,e9,e1,⟨e3,e4⟩,e2,⟨e5,e6⟩,e10,e7, ?_,e8, ?_,hd⟩
 ·have h1:=vZ hp
  rw[hd,e2]at h1
  rw[hal]
  have:((bz wd' b a.labels).data.length:Int)=(n*wd':Nat):=by rw[h1];push_cast;rfl
  omega
 ·rw[hal]
  exact vY (n:=n) h8
theorem dn {r:Rg} {x:List Int} (h:fits r x) (wd k:Nat):fits r (cutE x wd k):=eO h (k*wd) wd
namespace AlOk
variable {r : Rg} {a b : Ten} {wd n : Nat}
theorem add (h:AlOk r a b wd n):∀ k,k<n→(addE r (cutE a.data wd k) (cutE (alT r a b).data wd k)).length=wd:=fun k hk=>eR (dH h.la hk) (dH h.lb hk)
theorem mul (h:AlOk r a b wd n):∀ k,k<n→(mulE r (cutE a.data wd k) (cutE (alT r a b).data wd k)).length=wd:=fun k hk=>(eu h.ring h.w (dn h.fa wd k) (dn h.fb wd k) (dH h.la hk) (dH h.lb hk)).1
end AlOk
def jt (f:List Int→List Int→List Int) (r:Rg) (a b:Ten):Ten:=bif alB r a b then ⟨a.labels,a.dims,opP f a.data (alT r a b).data (ar r).toNat (ab a.dims).toNat⟩ else ⟨[],[],[]⟩
theorem yw {f:List Int→List Int→List Int} {r:Rg} {a b:Ten} {wd n:Nat} (h:alB r a b=true) (h':AlOk r a b wd n):jt f r a b=⟨a.labels,a.dims,opP f a.data (alT r a b).data wd n⟩:=by
 rw[jt,h,h'.w,h'.pa];rfl
end Go.Proofs.YtneocijmbnhblaaGreat
namespace Go.Proofs.YtneocijmbnhblaaGreat
open Plain
theorem uT {a:Int} {m:Nat} (h:0≤a∧a<(2:Int) ^ m) (hm:m≤20):∃ n:Nat,a=n∧n<2 ^ m∧n<1048577:=by
 obtain⟨n,rfl⟩:∃ n:Nat,a=n:=⟨a.toNat,by omega⟩
 have c:((2 ^ m:Nat):Int)=(2:Int) ^ m:=by simp
 have b:2 ^ m≤2 ^ 20:=Nat.pow_le_pow_right (by omega) hm
 exact⟨n,rfl,by omega,by omega⟩
theorem u4 {n:Nat} (h:n<1048577):IntKind.i64.wrap (n:Int)=n:=by rw[IntKind.wrap_i64];omega
theorem eg {a b:Nat} (ha:a<1048577) (hb:b<1048577):andI a b=((a&&& b:Nat):Int):=by
 have e:(BitVec.ofInt 64 (a:Int)&&& BitVec.ofInt 64 (b:Int)).toNat=a&&& b:=by
  rw[BitVec.toNat_and,BitVec.ofInt_natCast,BitVec.ofInt_natCast,BitVec.toNat_ofNat,BitVec.toNat_ofNat,Nat.mod_eq_of_lt (by omega),Nat.mod_eq_of_lt (by omega)]
 have h:a&&& b≤a:=Nat.and_le_left
 rw[andI,e,u4 (by omega)]
theorem gO {a b:Nat} (ha:a<2 ^ 20) (hb:b<2 ^ 20):orI a b=((a||| b:Nat):Int):=by
 have e:(BitVec.ofInt 64 (a:Int)||| BitVec.ofInt 64 (b:Int)).toNat=a||| b:=by
  rw[BitVec.toNat_or,BitVec.ofInt_natCast,BitVec.ofInt_natCast,BitVec.toNat_ofNat,BitVec.toNat_ofNat,Nat.mod_eq_of_lt (by omega),Nat.mod_eq_of_lt (by omega)]
 have h:a||| b<2 ^ 20:=Nat.or_lt_two_pow ha hb
 rw[orI,e,u4 (by omega)]
theorem top6 {r:Rg} (h:r.k=6):top r=2 ^ r.n.toNat-1:=by unfold top;rw[if_neg (by omega),if_neg (by omega),if_pos h]
theorem D6 {r:Rg} {a b:Int} (hr:aq r=true) (hk:r.k=6) (ha:0≤a∧a≤top r) (hb:0≤b∧b≤top r):0≤andI a b∧andI a b≤top r:=by
 have hn:1≤r.n∧r.n≤20:=by rcases aR hr with h | h | h | h | h | h | h | h<;>omega
 rw[top6 hk]at*
 obtain⟨m,rfl,h1,h2⟩:=uT (a:=a) (m:=r.n.toNat) (by omega) (by omega)
 obtain⟨n,rfl,h3,h4⟩:=uT (a:=b) (m:=r.n.toNat) (by omega) (by omega)
 have h:m&&& n≤m:=Nat.and_le_left
 rw[eg h2 h4]
 omega
theorem E0 {r:Rg} {a b:Int} (hr:aq r=true) (hk:r.k=6) (ha:0≤a∧a≤top r) (hb:0≤b∧b≤top r):0≤orI a b∧orI a b≤top r:=by
 have hn:1≤r.n∧r.n≤20:=by rcases aR hr with h | h | h | h | h | h | h | h<;>omega
 rw[top6 hk]at*
 obtain⟨m,rfl,h1,h2⟩:=uT (a:=a) (m:=r.n.toNat) (by omega) (by omega)
 obtain⟨n,rfl,h3,h4⟩:=uT (a:=b) (m:=r.n.toNat) (by omega) (by omega)
 have b:2 ^ r.n.toNat≤2 ^ 20:=Nat.pow_le_pow_right (by omega) (by omega)
 have h:m||| n<2 ^ r.n.toNat:=Nat.or_lt_two_pow h1 h3
 have c:((2 ^ r.n.toNat:Nat):Int)=(2:Int) ^ r.n.toNat:=by simp
 rw[gO (by omega) (by omega)]
 omega
theorem topP {r:Rg} (h:r.k=2∨r.k=7∨r.k=8):top r=r.p-1:=by unfold top;rw[if_neg (by omega),if_neg (by omega),if_neg (by omega)]
theorem topQ {r:Rg} (h:r.k=3∨r.k=4∨r.k=5):top r=r.p:=by unfold top;rw[if_neg (by omega),if_pos h]
theorem k7 {r:Rg} {x:Int} (h:0≤x∧x≤top r):fits r [x]:=eo fun y hy=>by simp only[List.mem_singleton]at hy;subst hy;exact h
theorem ns {r:Rg} {x y:List Int} {wd:Nat} (hr:aq r=true) (hw:ar r=wd) (hx:fits r x) (hy:fits r y) (lx:x.length=wd) (ly:y.length=wd):fits r (mulE r x y):=by
 have hwb:=cq hr
 have htb:=dP hr
 have x0:=hx 0 (by omega)
 have y0:=hy 0 (by omega)
 unfold mulE
 by_cases h7:r.k=7∨r.k=8
 ·rw[if_neg (by omega),if_neg (by omega),if_neg (by omega),if_neg (by omega),if_neg (by omega)]
  obtain⟨hlx,hp⟩:=bJ hr hx (by omega)
  obtain⟨hly,_⟩:=bJ hr hy (by omega)
  obtain⟨_,h1,h2⟩:=iu hp (jN (by omega) x.length) hlx hly x.length
  refine eo fun z hz=> ?_
  have:=h1.mem z hz
  have:=topP (r:=r) (by omega)
  omega
 ·have hmm:0≤x.getD 0 0*y.getD 0 0:=Int.mul_nonneg x0.1 y0.1
  split
  ·exact k7 (by omega)
  ·split
   ·obtain⟨_,hp⟩:=bJ hr hx (by omega)
    have:=tmb hmm (show 0<r.p by omega)
    have:=topP (r:=r) (by omega)
    exact k7 (by omega)
   ·have hp:r.k=3∨r.k=4→1≤r.p∧r.p≤1000000:=fun h=>by rcases aR hr with h | h | h | h | h | h | h | h<;>omega
    split
    ·have:=hp (.inl (by assumption))
     have:=topQ (r:=r) (by omega)
     exact k7 (by omega)
    ·split
     ·have:=hp (.inr (by assumption))
      have:=topQ (r:=r) (by omega)
      exact k7 (by omega)
     ·have h6:r.k=6:=by rcases aR hr with h | h | h | h | h | h | h | h<;>omega
      rw[if_pos h6]
      exact k7 (D6 hr h6 x0 y0)
theorem Bu {r:Rg} {a b:Int} (hr:aq r=true) (ha:0≤a∧a≤top r) (hb:0≤b∧b≤top r):0≤add1 r a b∧add1 r a b≤top r:=by
 unfold add1
 split
 ·omega
 ·split
  ·have:=topQ (r:=r) (by omega)
   omega
  ·split
   ·omega
   ·split
    ·exact E0 hr (by assumption) ha hb
    ·have hk:r.k=2∨r.k=7∨r.k=8:=by rcases aR hr with h | h | h | h | h | h | h | h<;>omega
     have hp:=(bJ (r:=r) (x:=[]) hr (fun k hk=>by simp at hk) hk).2
     have:=tmb (a:=a+b) (p:=r.p) (by omega) (by omega)
     have:=topP hk
     omega
theorem o9 {r:Rg} {x y:List Int} (hr:aq r=true) (hx:fits r x) (hy:fits r y):fits r (addE r x y):=eo fun z hz=>by
 obtain⟨k,hk,rfl⟩:=List.mem_iff_getElem.1 hz
 have hk':k<x.length∧k<y.length:=by simp [addE]at hk;omega
 have h:=r8 (r:=r) hk'.1 hk'.2
 rw[List.getElem?_eq_getElem hk]at h
 rw[Option.some.inj h]
 have h1:=hx k hk'.1
 have h2:=hy k hk'.2
 rw[ao hk'.1]at h1
 rw[ao hk'.2]at h2
 exact Bu hr h1 h2
def aJ (kk pp:Int) (wd:Nat):List Int:=if kk=4 then (List.replicate wd 0).set 0 pp else List.replicate wd 0
theorem bO (kk pp:Int) (wd:Nat):(aJ kk pp wd).length=wd:=by unfold aJ;split<;>simp
theorem eU {r:Rg} {wd:Nat} (hr:aq r=true):fits r (aJ r.k r.p wd):=eo fun x hx=>by
 have ht:=dP hr
 unfold aJ at hx
 split at hx
 ·rename_i h4
  have:=topQ (r:=r) (by omega)
  rcases List.mem_or_eq_of_mem_set hx with h | h
  ·have:=List.eq_of_mem_replicate h;omega
  ·omega
 ·have:=List.eq_of_mem_replicate hx;omega
def repE (z:List Int):Nat→List Int
 | 0=>[]
 | k+1=>repE z k++z
theorem dh (z:List Int):∀ k,(repE z k).length=k*z.length
 | 0=>by simp [repE]
 | k+1=>by rw[repE,List.length_append,dh z k,Nat.succ_mul]
theorem lX {z:List Int}:∀ k,∀ x∈repE z k,x∈z
 | 0,x,h=>by simp [repE]at h
 | k+1,x,h=>by
  rw[repE,List.mem_append]at h
  exact h.elim (lX k x) id
theorem zL {xs ys:List Int} {off:Nat}:∀ x∈putE xs off ys,x∈xs∨x∈ys:=fun x hx=>by
 simp only[putE,List.mem_append]at hx
 rcases hx with (h | h) | h
 ·exact .inl (List.mem_of_mem_take h)
 ·exact .inr h
 ·exact .inl (List.mem_of_mem_drop h)
theorem kA {r:Rg} {xs ys:List Int} {off:Nat} (h:fits r xs) (h':fits r ys):fits r (putE xs off ys):=eo fun x hx=>(zL x hx).elim (eN h x) (eN h' x)
structure InOk (ls ds L D:List Int) (n:Nat):Prop where
 ax:axOk ls ds
 pn:ab ds=n
 n1:1≤n∧n≤4096
 nodup:L.Nodup
 sup:∀ x∈ls,x∈L
 dl:D.length=L.length
 dbd:∀ d∈D,1≤d∧d≤8
 same:∀ q (h:q<L.length),L[q]∈ls→D.getD q 0=aE ⟨ls,ds,[]⟩ L[q]
def bN (ls ds L D:List Int) (i:Nat):Nat:=(dotI (L.map (aw ls ds)) (an D i)).toNat
namespace InOk
variable {ls ds L D : List Int} {n : Nat}
theorem idx (h:InOk ls ds L D n) (i:Nat):oC ds (ls.map (atL L (an D i))):=by
 have ha:axOk (⟨ls,ds,[]⟩:Ten).labels (⟨ls,ds,[]⟩:Ten).dims:=h.ax
 refine⟨by simp [h.ax.len],fun k hk=> ?_⟩
 have hk':k<ls.length:=by have:=h.ax.len;omega
 have hm:=h.sup ls[k] (List.getElem_mem hk')
 obtain⟨q,h1,h2,h3,h4⟩:=xE (xs:=an D i) hm (by simp [bg,h.dl])
 have h5:=fq D i (fun d hd=>(h.dbd d hd).1) q (by rw[h.dl];exact h1)
 have h7:L[q]=ls[k]:=by rw[List.getElem?_eq_getElem h1]at h3;simpa using h3
 have h6:D.getD q 0=ds.getD k 0:=by
  rw[h.same q h1 (by rw[h7];exact List.getElem_mem hk'),ao hk,h7]
  exact fN (t:=⟨ls,ds,[]⟩) ha hk' hk
 unfold oD
 have h8:(ls.map (atL L (an D i))).getD k 0=atL L (an D i) ls[k]:=by rw[ao (by simpa using hk')];simp
 rw[h8,h4, ← h6]
 exact h5
theorem off (h:InOk ls ds L D n) (i:Nat):dotI (L.map (aw ls ds)) (an D i)=bN ls ds L D i∧bN ls ds L D i<n:=by
 have h1:=l9 h.ax.len (bG h.ax) h.nodup h.sup (xs:=an D i) (by simp [bg,h.dl])
 have h2:=xd _ _ _ h.ax (h.idx i)
 have h3:=h.pn
 unfold bN
 rw[h1]
 omega
theorem cut (h:InOk ls ds L D n) {data:List Int} {wd:Nat} (hl:data.length=n*wd) (i:Nat):bN ls ds L D i*wd+wd≤data.length:=by
 rw[hl];exact dX (h.off i).2
theorem dotb (h:InOk ls ds L D n) (i k:Nat):0≤(L.map (aw ls ds)).getD k 0*(an D i).getD k 0∧(L.map (aw ls ds)).getD k 0*(an D i).getD k 0≤16777216:=by
 by_cases hk:k<L.length
 ·have hkD:k<D.length:=by rw[h.dl];exact hk
  have h1:=fq D i (fun d hd=>(h.dbd d hd).1) k hkD
  have h2:=h.dbd (D.getD k 0) (by rw[ao hkD];exact List.getElem_mem _)
  have h3:=iQ ls ds L[k] (fun d hd=>(h.ax.dim d hd).1)
  have h4:=h.pn
  have h5:=h.n1
  rw[ao (show k<(L.map (aw ls ds)).length by simpa using hk),List.getElem_map]
  generalize (an D i).getD k 0=x at*
  generalize aw ls ds L[k]=s at*
  refine⟨Int.mul_nonneg h3.1 h1.1, ?_⟩
  have:s*x≤s*8:=Int.mul_le_mul_of_nonneg_left (by omega) h3.1
  omega
 ·have:(L.map (aw ls ds)).getD k 0=0:=by simp [List.getD_eq_getElem?_getD,List.getElem?_eq_none (Nat.le_of_not_lt hk)]
  rw[this];simp
end InOk
theorem mC {a b:List Int} (ha:a.Nodup) (hb:b.Nodup):(aK a b).Nodup:=by
 unfold aK
 refine List.nodup_append.2 ⟨ha,hb.filter _,fun x hx y hy e=> ?_⟩
 subst e
 simp only[List.mem_filter,Bool.not_eq_true',bH]at hy
 exact hy.2 hx
def dAt (L D:List Int) (x:Int):Int:=D.getD (place L x).toNat 0
theorem wH {L D:List Int} {k:Nat} (hn:L.Nodup) (h:k<L.length):dAt L D L[k]=D.getD k 0:=by
 rw[dAt,dD h (ec hn h)];rfl
def conL (a b:Ten):List Int:=aK a.labels b.labels
def conK (a b:Ten) (keep:List Int):List Int:=(conL a b).filter (has keep)
def conD (a b:Ten) (keep:List Int):List Int:=(conK a b keep).map (dAt (conL a b) (aM a b))
def conO (a b:Ten) (keep:List Int) (i:Nat):Nat:=bN (conK a b keep) (conD a b keep) (conL a b) (aM a b) i
def conE (r:Rg) (wd:Nat) (a b:Ten) (i:Nat):List Int:=mulE r (cutE a.data wd (bN a.labels a.dims (conL a b) (aM a b) i)) (cutE b.data wd (bN b.labels b.dims (conL a b) (aM a b) i))
def eQ (r:Rg) (wd:Nat) (a b:Ten) (keep z:List Int):Nat→List Int
 | 0=>z
 | i+1=>putE (eQ r wd a b keep z i) (conO a b keep i*wd) (addE r (((eQ r wd a b keep z i).drop (conO a b keep i*wd)).take wd) (conE r wd a b i))
def conB (r:Rg) (a b:Ten) (keep:List Int):Bool:=
 aA r a.labels a.dims a.data&&aA r b.labels b.dims b.data&&fP a b&&decide (ab (aM a b)≤65536)&&decide (be (conK a b keep) (conD a b keep)≠ -1)
def conR (r:Rg) (wd:Nat) (a b:Ten) (keep:List Int):Ten:=
 ⟨conK a b keep,conD a b keep,eQ r wd a b keep (repE (aJ r.k r.p wd) (bf (conD a b keep))) (bf (aM a b))⟩
def conT (r:Rg) (a b:Ten) (keep:List Int):Ten:=bif conB r a b keep then conR r (ar r).toNat a b keep else ⟨[],[],[]⟩
theorem Bg {a b:Ten} {keep xs:List Int} (a10:axOk a.labels a.dims) (b10:axOk b.labels b.dims) (ha:TSz 1048576 a) (hb:TSz 1048576 b) (hx:Sz 1048576 xs):TSz 1048576 (⟨conK a b keep,conD a b keep,xs⟩:Ten):=by
 have hll:=kG a.labels b.labels
 have l1:=a10.1
 have l2:=b10.1
 have hfl:(conK a b keep).length≤24:=by
  have:=ez (aK a.labels b.labels) (aK a.labels b.labels).length (has keep)
  rw[List.take_length]at this
  show ((aK a.labels b.labels).filter (has keep)).length≤24
  omega
 refine⟨⟨by show (conK a b keep).length≤_;omega,fun x hx=>(aX.1 ((List.mem_filter.1 hx).1)).elim (ha.l.wf x) (hb.l.wf x)⟩,⟨by show (conD a b keep).length≤_;rw[conD,List.length_map];omega,fun x hx=> ?_⟩,hx⟩
 obtain⟨y,hy,rfl⟩:=List.mem_map.1 hx
 rcases Nat.lt_or_ge (place (conL a b) y).toNat (aM a b).length with h | h
 ·have:=mD a10 b10 (dAt (conL a b) (aM a b) y) (by rw[dAt,ao h];exact List.getElem_mem h)
  exact⟨by omega,by omega⟩
 ·have:dAt (conL a b) (aM a b) y=0:=by simp [dAt,List.getD_eq_getElem?_getD,List.getElem?_eq_none h]
  rw[this];exact⟨by omega,by omega⟩
theorem DH:Sz 1048576 []:=⟨by simp,by simp⟩
theorem yN {ds:List Int}:an ds 0=List.replicate ds.length 0:=by
 refine List.ext_getElem (by simp [bg]) fun q h1 h2=> ?_
 have h3:q<ds.length:=by simpa [bg]using h1
 have h5:=jg ds 0 q h3
 rw[ao h1]at h5
 rw[h5]
 simp [oK]
structure ConOk (r:Rg) (a b:Ten) (keep:List Int) (wd na nb n N:Nat):Prop where
 ring:aq r=true
 w:ar r=wd
 wb:1≤wd∧wd≤6
 ja:fP a b=true
 la:a.data.length=na*wd
 lb:b.data.length=nb*wd
 fa:fits r a.data
 fb:fits r b.data
 ia:InOk a.labels a.dims (conL a b) (aM a b) na
 ib:InOk b.labels b.dims (conL a b) (aM a b) nb
 io:InOk (conK a b keep) (conD a b keep) (conL a b) (aM a b) n
 pN:ab (aM a b)=N
 N1:1≤N∧N≤65536
theorem va {a b:Ten} {q:Nat} (hq:q<(conL a b).length):(aM a b).getD q 0=if has a.labels (conL a b)[q]=true then aE a (conL a b)[q] else aE b (conL a b)[q]:=by
 have h:q<(aM a b).length:=by simpa [aM,conL]using hq
 rw[ao h]
 simp only[aM,conL,List.getElem_map]
 rfl
theorem Bf {r:Rg} {a b:Ten} {keep:List Int} (h:conB r a b keep=true):∃ wd na nb n N:Nat,ConOk r a b keep wd na nb n N:=by
 simp only[conB,Bool.and_eq_true,decide_eq_true_eq]at h
 obtain⟨⟨⟨⟨h1,h2⟩,h3⟩,h4⟩,h5⟩:=h
 obtain⟨wd,na,a1,a2,a3,a4,a5,a6,a7,a8,a9,a10⟩:=cD h1
 obtain⟨wd',nb,b1,b2,b3,b4,b5,b6,b7,b8,b9,b10⟩:=cD h2
 have hwd:wd'=wd:=by omega
 subst hwd
 have hnd:(conL a b).Nodup:=mC (bG a10) (bG b10)
 have hdl:(aM a b).length=(conL a b).length:=by simp [aM,conL]
 have hdb:=mD a10 b10
 have hpj:=qA a10 b10 (by omega) (by omega)
 obtain⟨c1,c2,c3,c4⟩:=(d9 (conK a b keep) (conD a b keep)).resolve_left h5
 have hsub:∀ x∈conK a b keep,x∈conL a b:=fun x hx=>(List.mem_filter.1 hx).1
 refine⟨wd',na,nb,(ab (conD a b keep)).toNat,(ab (aM a b)).toNat,a9,a1,⟨a3,a4⟩,h3,a7,b7,a8,b8, ?_, ?_, ?_,by omega,by omega⟩
 ·refine⟨a10,a2,⟨a5,a6⟩,hnd,fun x hx=>aX.2 (.inl hx),hdl,hdb,fun q hq hm=> ?_⟩
  rw[va hq,if_pos (ba.2 hm)];rfl
 ·refine⟨b10,b2,⟨b5,b6⟩,hnd,fun x hx=>aX.2 (.inr hx),hdl,hdb,fun q hq hm=> ?_⟩
  rw[va hq]
  split
  ·rename_i hh
   exact qz h3 (ba.1 hh) hm
  ·rfl
 ·refine⟨c1,by omega,by omega,hnd,hsub,hdl,hdb,fun q hq hm=> ?_⟩
  obtain⟨i,hi,e1,e2,_⟩:=eE hm
  have e3:aE ⟨conK a b keep,conD a b keep,[]⟩ (conL a b)[q]=(conD a b keep).getD i 0:=by rw[aE,e1];rfl
  have hi':i<(conD a b keep).length:=by simpa [conD]using hi
  rw[e3,ao hi']
  simp only[conD,List.getElem_map,e2]
  exact(wH hnd hq).symm
section
variable {r : Rg} {a b : Ten} {keep : List Int} {wd na nb n N : Nat}
theorem ConOk.pO (h:ConOk r a b keep wd na nb n N):bf (conD a b keep)=n:=by have:=h.io.pn;unfold bf;omega
theorem ConOk.pJ (h:ConOk r a b keep wd na nb n N):bf (aM a b)=N:=by have:=h.pN;unfold bf;omega
theorem ConOk.ca (h:ConOk r a b keep wd na nb n N) (i:Nat):(cutE a.data wd (bN a.labels a.dims (conL a b) (aM a b) i)).length=wd:=dH h.la (h.ia.off i).2
theorem ConOk.cb (h:ConOk r a b keep wd na nb n N) (i:Nat):(cutE b.data wd (bN b.labels b.dims (conL a b) (aM a b) i)).length=wd:=dH h.lb (h.ib.off i).2
theorem ConOk.el (h:ConOk r a b keep wd na nb n N) (i:Nat):(conE r wd a b i).length=wd:=(eu h.ring h.w (dn h.fa wd _) (dn h.fb wd _) (h.ca i) (h.cb i)).1
theorem ConOk.ef (h:ConOk r a b keep wd na nb n N) (i:Nat):fits r (conE r wd a b i):=ns h.ring h.w (dn h.fa wd _) (dn h.fb wd _) (h.ca i) (h.cb i)
theorem qR (h:ConOk r a b keep wd na nb n N) {z:List Int} (hz:z.length=n*wd) (hf:fits r z):∀ i,(eQ r wd a b keep z i).length=n*wd∧fits r (eQ r wd a b keep z i)
 | 0=>⟨hz,hf⟩
 | i+1=>by
  obtain⟨h1,h2⟩:=qR h hz hf i
  have h3:=h.io.cut h1 i
  have h3:conO a b keep i*wd+wd≤(eQ r wd a b keep z i).length:=h3
  have h4:=eO h2 (conO a b keep i*wd) wd
  have h5:=eR (r:=r) (ep h3) (h.el i)
  rw[eQ]
  exact⟨by rw[bM (by rw[h5];exact h3),h1],kA h2 (o9 h.ring h4 (h.ef i))⟩
theorem ConOk.zl (h:ConOk r a b keep wd na nb n N):(repE (aJ r.k r.p wd) n).length=n*wd:=by rw[dh,bO]
theorem ConOk.zf (h:ConOk r a b keep wd na nb n N):fits r (repE (aJ r.k r.p wd) n):=eo fun x hx=>eN (eU h.ring) x (lX n x hx)
theorem CV (h:ConOk r a b keep wd na nb n N):conR r wd a b keep=⟨conK a b keep,conD a b keep,eQ r wd a b keep (repE (aJ r.k r.p wd) n) N⟩:=by rw[conR,h.pO,h.pJ]
theorem Bc (hb:conB r a b keep=true) (h:ConOk r a b keep wd na nb n N):conT r a b keep=conR r wd a b keep:=by rw[conT,hb,h.w];rfl
theorem CU (hb:conB r a b keep=false):conT r a b keep=⟨[],[],[]⟩:=by rw[conT,hb];rfl
end
end Go.Proofs.YtneocijmbnhblaaGreat
