/-
 Contracts: slices of tensors. No condition.
-/
import Derived.Test.YtjfmckhbmdjnpaaGreatCoD
import Derived.Test.YtjfmckhbmdjnpaaGreatLift28
set_option linter.unusedSimpArgs false
set_option linter.unusedVariables false
namespace Go.Proofs.YtjfmckhbmdjnpaaGreat
open Go.RowKit Go.Lift Plain
set_option maxRecDepth 100000
def wo (ls:List Int) (x:Int):List Int:=ls.filter (· !=x)
theorem zY:∀ {ls:List Int} {j:Nat} (hj:j<ls.length),ls.Nodup→wo ls ls[j]=ls.eraseIdx j
 | [],j,h,_=>by simp at h
 | l :: ls,0,_,hn=>by
  simp only[List.nodup_cons]at hn
  simp only[wo,List.getElem_cons_zero,List.filter_cons,bne_self_eq_false,Bool.false_eq_true,if_false,List.eraseIdx_cons_zero]
  refine List.filter_eq_self.2 fun y hy=> ?_
  simp only[bne_iff_ne,ne_eq]
  exact fun e=>hn.1 (e ▸ hy)
 | l :: ls,j+1,hj,hn=>by
  simp only[List.nodup_cons]at hn
  have hj':j<ls.length:=by simpa using hj
  have ih:=zY hj' hn.2
  have hne:l≠ls[j]:=fun e=>hn.1 (e ▸ List.getElem_mem hj')
  simp only[wo,List.getElem_cons_succ,List.filter_cons,List.eraseIdx_cons_succ]
  rw[if_pos (by simpa using hne), ← ih];rfl
theorem sv {α β:Type} (f:α→β):∀ (l:List α) (j:Nat),(l.map f).eraseIdx j=(l.eraseIdx j).map f
 | [],_=>by simp
 | x :: l,0=>rfl
 | x :: l,j+1=>by simp [sv f l j]
structure SliOk (t:Ten) (x:Int) (v wd n j:Nat):Prop where
 ax:axOk t.labels t.dims
 pn:aa t.dims=n
 n1:1≤n∧n≤4096
 w1:1≤wd∧wd≤6
 dl:t.data.length=n*wd
 jl:j<t.labels.length
 jx:t.labels[j]? =some x
 vd:(v:Int)<t.dims.getD j 0
def sliD (t:Ten) (j:Nat):List Int:=t.dims.eraseIdx j
def sliN (t:Ten) (j:Nat):Nat:=dC (sliD t j)
def sliR (wd:Nat) (t:Ten) (x:Int) (v j:Nat):Ten:=⟨wo t.labels x,sliD t j,gath t.data wd (offJ v t.dims j) (sliN t j)⟩
namespace SliOk
variable {t : Ten} {x : Int} {v wd n j : Nat}
theorem lx (h:SliOk t x v wd n j):t.labels[j]'h.jl=x:=by have:=h.jx;rw[zg h.jl]at this;simpa using this
theorem nodup (h:SliOk t x v wd n j):t.labels.Nodup:=bI h.ax
theorem W (h:SliOk t x v wd n j):wo t.labels x=t.labels.eraseIdx j:=by have:=zY h.jl h.nodup;rwa [h.lx]at this
theorem bB (h:SliOk t x v wd n j):Plain.bB t.labels x=j:=by have:=ff h.jl (jk h.nodup h.jl);rwa [h.lx]at this
theorem dims (h:SliOk t x v wd n j):(wo t.labels x).map (ar t)=sliD t j:=by
 rw[h.W, ← sv,oP h.ax];rfl
end SliOk
def sliB (r:Rg) (t:Ten) (x v:Int):Bool:=aE r t.labels t.dims t.data&&decide (x∈t.labels∧0≤v∧v<ar t x)
def sliT (r:Rg) (t:Ten) (x v:Int):Ten:=if sliB r t x v=true then sliR (ai r).toNat t x v.toNat (bB t.labels x).toNat else ⟨[],[],[]⟩
set_option maxRecDepth 100000
set_option maxRecDepth 100000
def fuL (t:Ten) (L:List Int) (x:Int):List Int:=wol t.labels L++[x]
def fuD (t:Ten) (L:List Int):List Int:=aZ t (wol t.labels L)++[aa (aZ t L)]
structure FuOk (r:Rg) (t:Ten) (L:List Int) (x:Int) (wd n:Nat):Prop where
 w:ai r=wd
 p:PermOk t (wol t.labels L++L) wd n
 ok:∀ x,aE r (fuL t L x) (fuD t L) (gF wd t (wol t.labels L++L)).data=decide (aY (fuL t L x) (fuD t L)≠ -1)
 pl:aa (aZ t L)≤4096∧1≤aa (aZ t L)
 dl:∀ d∈aZ t L,1≤d∧d≤8
 len:(wol t.labels L).length≤12∧L.length≤12
 dle:((gF wd t (wol t.labels L++L)).data.length)≤24576
def add1 (r:Rg) (a b:Int):Int:=
 if r.k=1∨r.k=5 then max a b else if r.k=3 then min (a+b) r.p else if r.k=4 then min a b else if r.k=6 then orI a b else (a+b).tmod r.p
def addE (r:Rg) (x y:List Int):List Int:=List.zipWith (add1 r) x y
theorem G0 (a b:Int):orI a b=orI b a:=by unfold orI;rw[BitVec.or_comm]
theorem EU (r:Rg) (a b:Int):add1 r a b=add1 r b a:=by
 unfold add1
 rw[Int.max_comm,Int.add_comm,Int.min_comm a b,G0]
theorem ES (r:Rg) (x y:List Int):addE r x y=addE r y x:=by
 unfold addE
 rw[List.zipWith_comm]
 congr 1
 funext a b
 exact EU r b a
theorem jr {r:Rg} {x y:List Int} {n:Nat} (h:x.length=n) (h':y.length=n):(addE r x y).length=n:=by simp [addE,h,h']
theorem x4 {r:Rg} {x y:List Int} {k:Nat} (h:k<x.length) (h':k<y.length):(addE r x y)[k]? =some (add1 r x[k] y[k]):=by rw[addE,List.getElem?_zipWith,zg h,zg h']
def cutE (x:List Int) (wd k:Nat):List Int:=(x.drop (k*wd)).take wd
section
variable {f : List Int → List Int → List Int} {x y z : List Int} {wd n k : Nat}
theorem oR (h:x.length=n*wd) (hk:k<n):(cutE x wd k).length=wd:=by
 have:=lM (wd:=wd) hk
 unfold cutE
 rw[List.length_take,List.length_drop]
 omega
end
def alS (r:Rg) (a b:Ten):Bool:=aE r a.labels a.dims a.data&&aE r b.labels b.dims b.data&&qe a.labels b.labels
def alB (r:Rg) (a b:Ten):Bool:=alS r a b&&decide (aZ b a.labels=a.dims)
def alT (r:Rg) (a b:Ten):Ten:=gF (ai r).toNat b a.labels
structure AlOk (r:Rg) (a b:Ten) (wd n:Nat):Prop where
 ring:ah r=true
 w:ai r=wd
 wb:1≤wd∧wd≤6
 pa:aa a.dims=n
 n1:1≤n∧n≤4096
 ax:axOk a.labels a.dims
 la:a.data.length=n*wd
 lb:(alT r a b).data.length=n*wd
 fa:fits r a.data
 fb:fits r (alT r a b).data
 dims:aZ b a.labels=a.dims
theorem eK {r:Rg} {x:List Int} (h:fits r x) (wd k:Nat):fits r (cutE x wd k):=jn h (k*wd) wd
namespace AlOk
variable {r : Rg} {a b : Ten} {wd n : Nat}
end AlOk
end Go.Proofs.YtjfmckhbmdjnpaaGreat
namespace Go.Proofs.YtjfmckhbmdjnpaaGreat
open Plain
theorem AK {a:Int} {m:Nat} (h:0≤a∧a<(2:Int) ^ m) (hm:m≤20):∃ n:Nat,a=n∧n<2 ^ m∧n<1048577:=by
 obtain⟨n,rfl⟩:∃ n:Nat,a=n:=⟨a.toNat,by omega⟩
 have c:((2 ^ m:Nat):Int)=(2:Int) ^ m:=by simp
 have b:2 ^ m≤2 ^ 20:=Nat.pow_le_pow_right (by omega) hm
 exact⟨n,rfl,by omega,by omega⟩
theorem zX {n:Nat} (h:n<1048577):IntKind.i64.wrap (n:Int)=n:=by rw[IntKind.wrap_i64];omega
theorem eh {a b:Nat} (ha:a<1048577) (hb:b<1048577):andI a b=((a&&& b:Nat):Int):=by
 have e:(BitVec.ofInt 64 (a:Int)&&& BitVec.ofInt 64 (b:Int)).toNat=a&&& b:=by
  rw[BitVec.toNat_and,BitVec.ofInt_natCast,BitVec.ofInt_natCast,BitVec.toNat_ofNat,BitVec.toNat_ofNat,Nat.mod_eq_of_lt (by omega),Nat.mod_eq_of_lt (by omega)]
 have h:a&&& b≤a:=Nat.and_le_left
 rw[andI,e,zX (by omega)]
theorem kp {a b:Nat} (ha:a<2 ^ 20) (hb:b<2 ^ 20):orI a b=((a||| b:Nat):Int):=by
 have e:(BitVec.ofInt 64 (a:Int)||| BitVec.ofInt 64 (b:Int)).toNat=a||| b:=by
  rw[BitVec.toNat_or,BitVec.ofInt_natCast,BitVec.ofInt_natCast,BitVec.toNat_ofNat,BitVec.toNat_ofNat,Nat.mod_eq_of_lt (by omega),Nat.mod_eq_of_lt (by omega)]
 have h:a||| b<2 ^ 20:=Nat.or_lt_two_pow ha hb
 rw[orI,e,zX (by omega)]
theorem top6 {r:Rg} (h:r.k=6):top r=2 ^ r.n.toNat-1:=by unfold top;rw[if_neg (by omega),if_neg (by omega),if_pos h]
theorem Jk {r:Rg} {a b:Int} (hr:ah r=true) (hk:r.k=6) (ha:0≤a∧a≤top r) (hb:0≤b∧b≤top r):0≤andI a b∧andI a b≤top r:=by
 have hn:1≤r.n∧r.n≤20:=by rcases aO hr with h | h | h | h | h | h | h | h<;>omega
 rw[top6 hk]at*
 obtain⟨m,rfl,h1,h2⟩:=AK (a:=a) (m:=r.n.toNat) (by omega) (by omega)
 obtain⟨n,rfl,h3,h4⟩:=AK (a:=b) (m:=r.n.toNat) (by omega) (by omega)
 have h:m&&& n≤m:=Nat.and_le_left
 rw[eh h2 h4]
 omega
theorem Kp {r:Rg} {a b:Int} (hr:ah r=true) (hk:r.k=6) (ha:0≤a∧a≤top r) (hb:0≤b∧b≤top r):0≤orI a b∧orI a b≤top r:=by
 have hn:1≤r.n∧r.n≤20:=by rcases aO hr with h | h | h | h | h | h | h | h<;>omega
 rw[top6 hk]at*
 obtain⟨m,rfl,h1,h2⟩:=AK (a:=a) (m:=r.n.toNat) (by omega) (by omega)
 obtain⟨n,rfl,h3,h4⟩:=AK (a:=b) (m:=r.n.toNat) (by omega) (by omega)
 have b:2 ^ r.n.toNat≤2 ^ 20:=Nat.pow_le_pow_right (by omega) (by omega)
 have h:m||| n<2 ^ r.n.toNat:=Nat.or_lt_two_pow h1 h3
 have c:((2 ^ r.n.toNat:Nat):Int)=(2:Int) ^ r.n.toNat:=by simp
 rw[kp (by omega) (by omega)]
 omega
theorem topP {r:Rg} (h:r.k=2∨r.k=7∨r.k=8):top r=r.p-1:=by unfold top;rw[if_neg (by omega),if_neg (by omega),if_neg (by omega)]
theorem topQ {r:Rg} (h:r.k=3∨r.k=4∨r.k=5):top r=r.p:=by unfold top;rw[if_neg (by omega),if_pos h]
theorem oL {r:Rg} {x:Int} (h:0≤x∧x≤top r):fits r [x]:=ge fun y hy=>by simp only[List.mem_singleton]at hy;subst hy;exact h
theorem t7 {r:Rg} {x y:List Int} {wd:Nat} (hr:ah r=true) (hw:ai r=wd) (hx:fits r x) (hy:fits r y) (lx:x.length=wd) (ly:y.length=wd):fits r (mulE r x y):=by
 have hwb:=cr hr
 have htb:=dS hr
 have x0:=hx 0 (by omega)
 have y0:=hy 0 (by omega)
 unfold mulE
 by_cases h7:r.k=7∨r.k=8
 ·rw[if_neg (by omega),if_neg (by omega),if_neg (by omega),if_neg (by omega),if_neg (by omega)]
  obtain⟨hlx,hp⟩:=bE hr hx (by omega)
  obtain⟨hly,_⟩:=bE hr hy (by omega)
  obtain⟨_,h1,h2⟩:=lN hp (oe (by omega) x.length) hlx hly x.length
  refine ge fun z hz=> ?_
  have:=h1.mem z hz
  have:=topP (r:=r) (by omega)
  omega
 ·have hmm:0≤x.getD 0 0*y.getD 0 0:=Int.mul_nonneg x0.1 y0.1
  split
  ·exact oL (by omega)
  ·split
   ·obtain⟨_,hp⟩:=bE hr hx (by omega)
    have:=tmb hmm (show 0<r.p by omega)
    have:=topP (r:=r) (by omega)
    exact oL (by omega)
   ·have hp:r.k=3∨r.k=4→1≤r.p∧r.p≤1000000:=fun h=>by rcases aO hr with h | h | h | h | h | h | h | h<;>omega
    split
    ·have:=hp (.inl (by assumption))
     have:=topQ (r:=r) (by omega)
     exact oL (by omega)
    ·split
     ·have:=hp (.inr (by assumption))
      have:=topQ (r:=r) (by omega)
      exact oL (by omega)
     ·have h6:r.k=6:=by rcases aO hr with h | h | h | h | h | h | h | h<;>omega
      rw[if_pos h6]
      exact oL (Jk hr h6 x0 y0)
theorem Hn {r:Rg} {a b:Int} (hr:ah r=true) (ha:0≤a∧a≤top r) (hb:0≤b∧b≤top r):0≤add1 r a b∧add1 r a b≤top r:=by
 unfold add1
 split
 ·omega
 ·split
  ·have:=topQ (r:=r) (by omega)
   omega
  ·split
   ·omega
   ·split
    ·exact Kp hr (by assumption) ha hb
    ·have hk:r.k=2∨r.k=7∨r.k=8:=by rcases aO hr with h | h | h | h | h | h | h | h<;>omega
     have hp:=(bE (r:=r) (x:=[]) hr (fun k hk=>by simp at hk) hk).2
     have:=tmb (a:=a+b) (p:=r.p) (by omega) (by omega)
     have:=topP hk
     omega
theorem u5 {r:Rg} {x y:List Int} (hr:ah r=true) (hx:fits r x) (hy:fits r y):fits r (addE r x y):=ge fun z hz=>by
 obtain⟨k,hk,rfl⟩:=List.mem_iff_getElem.1 hz
 have hk':k<x.length∧k<y.length:=by simp [addE]at hk;omega
 have h:=x4 (r:=r) hk'.1 hk'.2
 rw[zg hk]at h
 rw[Option.some.inj h]
 have h1:=hx k hk'.1
 have h2:=hy k hk'.2
 rw[ae hk'.1]at h1
 rw[ae hk'.2]at h2
 exact Hn hr h1 h2
def az (kk pp:Int) (wd:Nat):List Int:=if kk=4 then (List.replicate wd 0).set 0 pp else List.replicate wd 0
theorem bR (kk pp:Int) (wd:Nat):(az kk pp wd).length=wd:=by unfold az;split<;>simp
theorem j4 {r:Rg} {wd:Nat} (hr:ah r=true):fits r (az r.k r.p wd):=ge fun x hx=>by
 have ht:=dS hr
 unfold az at hx
 split at hx
 ·rename_i h4
  have:=topQ (r:=r) (by omega)
  rcases List.mem_or_eq_of_mem_set hx with h | h
  ·have:=List.eq_of_mem_replicate h;omega
  ·omega
 ·have:=List.eq_of_mem_replicate hx;omega
def repE (z:List Int):Nat→List Int
 | 0=>[]
 | k+1=>repE z k++z
theorem dY (z:List Int):∀ k,(repE z k).length=k*z.length
 | 0=>by simp [repE]
 | k+1=>by rw[repE,List.length_append,dY z k,Nat.succ_mul]
theorem vu {z:List Int}:∀ k,∀ x∈repE z k,x∈z
 | 0,x,h=>by simp [repE]at h
 | k+1,x,h=>by
  rw[repE,List.mem_append]at h
  exact h.elim (vu k x) id
theorem FI {xs ys:List Int} {off:Nat}:∀ x∈putE xs off ys,x∈xs∨x∈ys:=fun x hx=>by
 simp only[putE,List.mem_append]at hx
 rcases hx with (h | h) | h
 ·exact .inl (List.mem_of_mem_take h)
 ·exact .inr h
 ·exact .inl (List.mem_of_mem_drop h)
theorem sY {r:Rg} {xs ys:List Int} {off:Nat} (h:fits r xs) (h':fits r ys):fits r (putE xs off ys):=ge fun x hx=>(FI x hx).elim (jm h x) (jm h' x)
structure InOk (ls ds L D:List Int) (n:Nat):Prop where
 ax:axOk ls ds
 pn:aa ds=n
 n1:1≤n∧n≤4096
 nodup:L.Nodup
 sup:∀ x∈ls,x∈L
 dl:D.length=L.length
 dbd:∀ d∈D,1≤d∧d≤8
 same:∀ q (h:q<L.length),L[q]∈ls→D.getD q 0=ar ⟨ls,ds,[]⟩ L[q]
def bH (ls ds L D:List Int) (i:Nat):Nat:=(dotI (L.map (aj ls ds)) (ac D i)).toNat
namespace InOk
variable {ls ds L D : List Int} {n : Nat}
theorem idx (h:InOk ls ds L D n) (i:Nat):uk ds (ls.map (atL L (ac D i))):=by
 have ha:axOk (⟨ls,ds,[]⟩:Ten).labels (⟨ls,ds,[]⟩:Ten).dims:=h.ax
 refine⟨by simp [h.ax.len],fun k hk=> ?_⟩
 have hk':k<ls.length:=by have:=h.ax.len;omega
 have hm:=h.sup ls[k] (List.getElem_mem hk')
 obtain⟨q,h1,h2,h3,h4⟩:=Dm (xs:=ac D i) hm (by simp [be,h.dl])
 have h5:=iZ D i (fun d hd=>(h.dbd d hd).1) q (by rw[h.dl];exact h1)
 have h7:L[q]=ls[k]:=by rw[zg h1]at h3;simpa using h3
 have h6:D.getD q 0=ds.getD k 0:=by
  rw[h.same q h1 (by rw[h7];exact List.getElem_mem hk'),ae hk,h7]
  exact gQ (t:=⟨ls,ds,[]⟩) ha hk' hk
 unfold ww
 have h8:(ls.map (atL L (ac D i))).getD k 0=atL L (ac D i) ls[k]:=by rw[ae (by simpa using hk')];simp
 rw[h8,h4, ← h6]
 exact h5
theorem off (h:InOk ls ds L D n) (i:Nat):dotI (L.map (aj ls ds)) (ac D i)=bH ls ds L D i∧bH ls ds L D i<n:=by
 have h1:=qO h.ax.len (bI h.ax) h.nodup h.sup (xs:=ac D i) (by simp [be,h.dl])
 have h2:=CP _ _ _ h.ax (h.idx i)
 have h3:=h.pn
 unfold bH
 rw[h1]
 omega
theorem cut (h:InOk ls ds L D n) {data:List Int} {wd:Nat} (hl:data.length=n*wd) (i:Nat):bH ls ds L D i*wd+wd≤data.length:=by
 rw[hl];exact lM (h.off i).2
theorem dotb (h:InOk ls ds L D n) (i k:Nat):0≤(L.map (aj ls ds)).getD k 0*(ac D i).getD k 0∧(L.map (aj ls ds)).getD k 0*(ac D i).getD k 0≤16777216:=by
 by_cases hk:k<L.length
 ·have hkD:k<D.length:=by rw[h.dl];exact hk
  have h1:=iZ D i (fun d hd=>(h.dbd d hd).1) k hkD
  have h2:=h.dbd (D.getD k 0) (by rw[ae hkD];exact List.getElem_mem _)
  have h3:=qM ls ds L[k] (fun d hd=>(h.ax.dim d hd).1)
  have h4:=h.pn
  have h5:=h.n1
  rw[ae (show k<(L.map (aj ls ds)).length by simpa using hk),List.getElem_map]
  generalize (ac D i).getD k 0=x at*
  generalize aj ls ds L[k]=s at*
  refine⟨Int.mul_nonneg h3.1 h1.1, ?_⟩
  have:s*x≤s*8:=Int.mul_le_mul_of_nonneg_left (by omega) h3.1
  omega
 ·have:(L.map (aj ls ds)).getD k 0=0:=by simp [zq,List.getElem?_eq_none (Nat.le_of_not_lt hk)]
  rw[this];simp
end InOk
theorem wm {a b:List Int} (ha:a.Nodup) (hb:b.Nodup):(ao a b).Nodup:=by
 unfold ao
 refine List.nodup_append.2 ⟨ha,hb.filter _,fun x hx y hy e=> ?_⟩
 subst e
 simp only[List.mem_filter,Bool.not_eq_true',bK]at hy
 exact hy.2 hx
def dAt (L D:List Int) (x:Int):Int:=D.getD (bB L x).toNat 0
theorem Ce {L D:List Int} {k:Nat} (hn:L.Nodup) (h:k<L.length):dAt L D L[k]=D.getD k 0:=by
 rw[dAt,ff h (jk hn h)];rfl
def conL (a b:Ten):List Int:=ao a.labels b.labels
def conK (a b:Ten) (keep:List Int):List Int:=(conL a b).filter (has keep)
def conD (a b:Ten) (keep:List Int):List Int:=(conK a b keep).map (dAt (conL a b) (aD a b))
def conO (a b:Ten) (keep:List Int) (i:Nat):Nat:=bH (conK a b keep) (conD a b keep) (conL a b) (aD a b) i
def conE (r:Rg) (wd:Nat) (a b:Ten) (i:Nat):List Int:=mulE r (cutE a.data wd (bH a.labels a.dims (conL a b) (aD a b) i)) (cutE b.data wd (bH b.labels b.dims (conL a b) (aD a b) i))
def fq (r:Rg) (wd:Nat) (a b:Ten) (keep z:List Int):Nat→List Int
 | 0=>z
 | i+1=>putE (fq r wd a b keep z i) (conO a b keep i*wd) (addE r (((fq r wd a b keep z i).drop (conO a b keep i*wd)).take wd) (conE r wd a b i))
def conB (r:Rg) (a b:Ten) (keep:List Int):Bool:=
 aE r a.labels a.dims a.data&&aE r b.labels b.dims b.data&&i0 a b&&decide (aa (aD a b)≤65536)&&decide (aY (conK a b keep) (conD a b keep)≠ -1)
def conR (r:Rg) (wd:Nat) (a b:Ten) (keep:List Int):Ten:=
 ⟨conK a b keep,conD a b keep,fq r wd a b keep (repE (az r.k r.p wd) (dC (conD a b keep))) (dC (aD a b))⟩
def conT (r:Rg) (a b:Ten) (keep:List Int):Ten:=bif conB r a b keep then conR r (ai r).toNat a b keep else ⟨[],[],[]⟩
theorem Hc {a b:Ten} {keep xs:List Int} (a10:axOk a.labels a.dims) (b10:axOk b.labels b.dims) (ha:TSz 1048576 a) (hb:TSz 1048576 b) (hx:Sz 1048576 xs):TSz 1048576 (⟨conK a b keep,conD a b keep,xs⟩:Ten):=by
 have hll:=pY a.labels b.labels
 have l1:=a10.1
 have l2:=b10.1
 have hfl:(conK a b keep).length≤24:=by
  have:=fV (ao a.labels b.labels) (ao a.labels b.labels).length (has keep)
  rw[List.take_length]at this
  show ((ao a.labels b.labels).filter (has keep)).length≤24
  omega
 refine⟨⟨by show (conK a b keep).length≤_;omega,fun x hx=>(bc.1 ((List.mem_filter.1 hx).1)).elim (ha.l.wf x) (hb.l.wf x)⟩,⟨by show (conD a b keep).length≤_;rw[conD,List.length_map];omega,fun x hx=> ?_⟩,hx⟩
 obtain⟨y,hy,rfl⟩:=List.mem_map.1 hx
 rcases Nat.lt_or_ge (bB (conL a b) y).toNat (aD a b).length with h | h
 ·have:=s9 a10 b10 (dAt (conL a b) (aD a b) y) (by rw[dAt,ae h];exact List.getElem_mem h)
  exact⟨by omega,by omega⟩
 ·have:dAt (conL a b) (aD a b) y=0:=by simp [dAt,zq,List.getElem?_eq_none h]
  rw[this];exact⟨by omega,by omega⟩
theorem K4:Sz 1048576 []:=⟨by simp,by simp⟩
theorem EG {ds:List Int}:ac ds 0=List.replicate ds.length 0:=by
 refine List.ext_getElem (by simp [be]) fun q h1 h2=> ?_
 have h3:q<ds.length:=by simpa [be]using h1
 have h5:=mY ds 0 q h3
 rw[ae h1]at h5
 rw[h5]
 simp [uo]
structure ConOk (r:Rg) (a b:Ten) (keep:List Int) (wd na nb n N:Nat):Prop where
 ring:ah r=true
 w:ai r=wd
 wb:1≤wd∧wd≤6
 ja:i0 a b=true
 la:a.data.length=na*wd
 lb:b.data.length=nb*wd
 fa:fits r a.data
 fb:fits r b.data
 ia:InOk a.labels a.dims (conL a b) (aD a b) na
 ib:InOk b.labels b.dims (conL a b) (aD a b) nb
 io:InOk (conK a b keep) (conD a b keep) (conL a b) (aD a b) n
 pN:aa (aD a b)=N
 N1:1≤N∧N≤65536
theorem AY {a b:Ten} {q:Nat} (hq:q<(conL a b).length):(aD a b).getD q 0=if has a.labels (conL a b)[q]=true then ar a (conL a b)[q] else ar b (conL a b)[q]:=by
 have h:q<(aD a b).length:=by simpa [aD,conL]using hq
 rw[ae h]
 simp only[aD,conL,List.getElem_map]
 rfl
theorem Hb {r:Rg} {a b:Ten} {keep:List Int} (h:conB r a b keep=true):∃ wd na nb n N:Nat,ConOk r a b keep wd na nb n N:=by
 simp only[conB,Bool.and_eq_true,decide_eq_true_eq]at h
 obtain⟨⟨⟨⟨h1,h2⟩,h3⟩,h4⟩,h5⟩:=h
 obtain⟨wd,na,a1,a2,a3,a4,a5,a6,a7,a8,a9,a10⟩:=eD h1
 obtain⟨wd',nb,b1,b2,b3,b4,b5,b6,b7,b8,b9,b10⟩:=eD h2
 have hwd:wd'=wd:=by omega
 subst hwd
 have hnd:(conL a b).Nodup:=wm (bI a10) (bI b10)
 have hdl:(aD a b).length=(conL a b).length:=by simp [aD,conL]
 have hdb:=s9 a10 b10
 have hpj:=wn a10 b10 (by omega) (by omega)
 obtain⟨c1,c2,c3,c4⟩:=(da (conK a b keep) (conD a b keep)).resolve_left h5
 have hsub:∀ x∈conK a b keep,x∈conL a b:=fun x hx=>(List.mem_filter.1 hx).1
 refine⟨wd',na,nb,(aa (conD a b keep)).toNat,(aa (aD a b)).toNat,a9,a1,⟨a3,a4⟩,h3,a7,b7,a8,b8, ?_, ?_, ?_,by omega,by omega⟩
 ·refine⟨a10,a2,⟨a5,a6⟩,hnd,fun x hx=>bc.2 (.inl hx),hdl,hdb,fun q hq hm=> ?_⟩
  rw[AY hq,if_pos (aI.2 hm)];rfl
 ·refine⟨b10,b2,⟨b5,b6⟩,hnd,fun x hx=>bc.2 (.inr hx),hdl,hdb,fun q hq hm=> ?_⟩
  rw[AY hq]
  split
  ·rename_i hh
   exact wl h3 (aI.1 hh) hm
  ·rfl
 ·refine⟨c1,by omega,by omega,hnd,hsub,hdl,hdb,fun q hq hm=> ?_⟩
  obtain⟨i,hi,e1,e2,_⟩:=iC hm
  have e3:ar ⟨conK a b keep,conD a b keep,[]⟩ (conL a b)[q]=(conD a b keep).getD i 0:=by rw[ar,e1];rfl
  have hi':i<(conD a b keep).length:=by simpa [conD]using hi
  rw[e3,ae hi']
  simp only[conD,List.getElem_map,e2]
  exact(Ce hnd hq).symm
section
variable {r : Rg} {a b : Ten} {keep : List Int} {wd na nb n N : Nat}
theorem ConOk.pO (h:ConOk r a b keep wd na nb n N):dC (conD a b keep)=n:=by have:=h.io.pn;unfold dC;omega
theorem ConOk.pJ (h:ConOk r a b keep wd na nb n N):dC (aD a b)=N:=by have:=h.pN;unfold dC;omega
theorem ConOk.ca (h:ConOk r a b keep wd na nb n N) (i:Nat):(cutE a.data wd (bH a.labels a.dims (conL a b) (aD a b) i)).length=wd:=oR h.la (h.ia.off i).2
theorem ConOk.cb (h:ConOk r a b keep wd na nb n N) (i:Nat):(cutE b.data wd (bH b.labels b.dims (conL a b) (aD a b) i)).length=wd:=oR h.lb (h.ib.off i).2
theorem ConOk.el (h:ConOk r a b keep wd na nb n N) (i:Nat):(conE r wd a b i).length=wd:=(fP h.ring h.w (eK h.fa wd _) (eK h.fb wd _) (h.ca i) (h.cb i)).1
theorem ConOk.ef (h:ConOk r a b keep wd na nb n N) (i:Nat):fits r (conE r wd a b i):=t7 h.ring h.w (eK h.fa wd _) (eK h.fb wd _) (h.ca i) (h.cb i)
theorem wO (h:ConOk r a b keep wd na nb n N) {z:List Int} (hz:z.length=n*wd) (hf:fits r z):∀ i,(fq r wd a b keep z i).length=n*wd∧fits r (fq r wd a b keep z i)
 | 0=>⟨hz,hf⟩
 | i+1=>by
  obtain⟨h1,h2⟩:=wO h hz hf i
  have h3:=h.io.cut h1 i
  have h3:conO a b keep i*wd+wd≤(fq r wd a b keep z i).length:=h3
  have h4:=jn h2 (conO a b keep i*wd) wd
  have h5:=jr (r:=r) (gg h3) (h.el i)
  rw[fq]
  exact⟨by rw[bX (by rw[h5];exact h3),h1],sY h2 (u5 h.ring h4 (h.ef i))⟩
theorem ConOk.zl (h:ConOk r a b keep wd na nb n N):(repE (az r.k r.p wd) n).length=n*wd:=by rw[dY,bR]
theorem ConOk.zf (h:ConOk r a b keep wd na nb n N):fits r (repE (az r.k r.p wd) n):=ge fun x hx=>jm (j4 h.ring) x (vu n x hx)
theorem Ja (h:ConOk r a b keep wd na nb n N):conR r wd a b keep=⟨conK a b keep,conD a b keep,fq r wd a b keep (repE (az r.k r.p wd) n) N⟩:=by rw[conR,h.pO,h.pJ]
theorem H9 (hb:conB r a b keep=true) (h:ConOk r a b keep wd na nb n N):conT r a b keep=conR r wd a b keep:=by rw[conT,hb,h.w];rfl
theorem J9 (hb:conB r a b keep=false):conT r a b keep=⟨[],[],[]⟩:=by rw[conT,hb];rfl
end
end Go.Proofs.YtjfmckhbmdjnpaaGreat
namespace Go.Proofs.YtjfmckhbmdjnpaaGreat
open Go.RowKit Go.Lift Plain
set_option maxRecDepth 100000
theorem Ck {r:Rg} (a b:Int):(r.k=1∨r.k=5→add1 r a b=max a b)∧(r.k=3→add1 r a b=min (a+b) r.p)∧(r.k=4→add1 r a b=min a b)∧(r.k=6→add1 r a b=orI a b)∧(r.k=2∨r.k=7∨r.k=8→add1 r a b=(a+b).tmod r.p):=by
 unfold add1
 refine⟨fun h=> ?_,fun h=> ?_,fun h=> ?_,fun h=> ?_,fun h=> ?_⟩
 ·rw[if_pos h]
 ·rw[if_neg (by omega),if_pos h]
 ·rw[if_neg (by omega),if_neg (by omega),if_pos h]
 ·rw[if_neg (by omega),if_neg (by omega),if_neg (by omega),if_pos h]
 ·rw[if_neg (by omega),if_neg (by omega),if_neg (by omega),if_neg (by omega)]
set_option maxHeartbeats 1600000 in
theorem Gs {kk pp nn:Int} {x y:List Int} {wd:Nat} (hr:ah ⟨kk,pp,nn⟩=true) (hw:ai ⟨kk,pp,nn⟩=wd) (hx:fits ⟨kk,pp,nn⟩ x) (hy:fits ⟨kk,pp,nn⟩ y) (lx:x.length=wd) (ly:y.length=wd):
  Does Tryz.prog 97 [bo kk pp nn,.d (ints x),.d (ints y)] [] (.own 0 0 wd) [some ⟨1,true,iv (addE ⟨kk,pp,nn⟩ x y)⟩]:=by
 have hwb:=cr hr
 have htb:=dS hr
 have hor:∀ a b:Int,IntKind.i64.wrap (BitVec.ofInt 64 a||| BitVec.ofInt 64 b).toNat=orI a b:=fun _ _=>rfl
 have hal:=jr (r:=⟨kk,pp,nn⟩) lx ly
 have hrl:(List.replicate wd (0:Int)).length=wd:=by simp
 have hml:(addE ⟨kk,pp,nn⟩ x y).length=(List.replicate wd (0:Int)).length:=by rw[hal,hrl]
 have hlow:=fun h=>(bE (r:=⟨kk,pp,nn⟩) hr hx h).2
 simp only at hlow
 (refine spec_of (by kernel_rfl) Tryz.func97 xh (fnOk (nb rfl) ?_);unfold qt)
 (simp only[Nat.reduceSub,Zl,zn,Nat.reduceAdd,zF];try simp only[af]);(simp only[go_sem,seval,reduceCtorEq,List.replicate])
 refine⟨by omega, ?_⟩
 refine aP (wd) (mkB 96 39614081257132168796771942656) (fun k=>[(14,.d (.int k))]) (fun k=>[(1,iv (mix (addE ⟨kk,pp,nn⟩ x y) (List.replicate wd 0) k))]) (h1:=by first | (simp only[go_sem,seval,reduceCtorEq,nz,na,n1,cx,lx];first | done | rfl) | rfl) (h2:=by first | (simp only[go_sem,seval,reduceCtorEq,nz,na,n1,cx,lx];first | done | rfl) | rfl) (hr:=fun k hk=> ?_)
 unfold pe
 have hmk:(mix (addE ⟨kk,pp,nn⟩ x y) (List.replicate wd 0) k).length=wd:=by rw[kw hml,hal]
 by_cases hlt:k<wd
 ·have d1:(k:Int)<x.length:=by omega
  have d2:(k:Int)<y.length:=by omega
  have d3:(k:Int)<wd:=by omega
  have hkx:k<x.length:=by omega
  have hky:k<y.length:=by omega
  have gx:x[k]? =some x[k]:=zg hkx
  have gy:y[k]? =some y[k]:=zg hky
  have bx:=hx k hkx
  have bY:=hy k hky
  rw[ae hkx]at bx
  rw[ae hky]at bY
  have hm:=gO hml (x4 (r:=⟨kk,pp,nn⟩) hkx hky)
  obtain⟨a1,a2,a3,a4,a5⟩:=Ck (r:=⟨kk,pp,nn⟩) x[k] y[k]
  simp only at a1 a2 a3 a4 a5
  generalize hae:x[k]=a at*
  generalize hbe:y[k]=b at*
  rcases aO hr with h | h | h | h | h | h | h | h<;>simp only at h<;>obtain⟨rfl,h⟩:=h
  ·have ho:orI a b=max a b:=by simp only[top,if_true]at bx bY;exact Kq bx bY
   simp(disch:=omega) only[go_sem,seval,reduceCtorEq,lx,ly,d1,d2,d3,gx,gy,hor,ho, ← a1 (.inl rfl)]
   refine⟨by omega, ?_⟩
   (refine Next.drop (mkB 96 39614081257132168796771942656) (by omega) (h1:= ?_) (h2:= ?_)<;>first | (simp only[go_sem,seval,reduceCtorEq,nz,na,n1,hm];first | done | rfl) | rfl | skip)
  ·have hp:=hlow (.inl rfl)
   have hp0:pp≠0:=by omega
   simp(disch:=omega) only[go_sem,seval,reduceCtorEq,lx,ly,d1,d2,d3,gx,gy,hp0,ne_eq,not_false_eq_true, ← a5 (.inl rfl)]
   refine⟨by omega, ?_⟩
   (refine Next.drop (mkB 96 39614081257132168796771942656) (by omega) (h1:= ?_) (h2:= ?_)<;>first | (simp only[go_sem,seval,reduceCtorEq,nz,na,n1,hm];first | done | rfl) | rfl | skip)
  ·simp(disch:=omega) only[go_sem,seval,reduceCtorEq,lx,ly,d1,d2,d3,gx,gy, ← a2 rfl]
   refine⟨by omega, ?_⟩
   (refine Next.drop (mkB 96 39614081257132168796771942656) (by omega) (h1:= ?_) (h2:= ?_)<;>first | (simp only[go_sem,seval,reduceCtorEq,nz,na,n1,hm];first | done | rfl) | rfl | skip)
  ·simp(disch:=omega) only[go_sem,seval,reduceCtorEq,lx,ly,d1,d2,d3,gx,gy, ← a3 rfl]
   refine⟨by omega, ?_⟩
   (refine Next.drop (mkB 96 39614081257132168796771942656) (by omega) (h1:= ?_) (h2:= ?_)<;>first | (simp only[go_sem,seval,reduceCtorEq,nz,na,n1,hm];first | done | rfl) | rfl | skip)
  ·simp(disch:=omega) only[go_sem,seval,reduceCtorEq,lx,ly,d1,d2,d3,gx,gy, ← a1 (.inr rfl)]
   refine⟨by omega, ?_⟩
   (refine Next.drop (mkB 96 39614081257132168796771942656) (by omega) (h1:= ?_) (h2:= ?_)<;>first | (simp only[go_sem,seval,reduceCtorEq,nz,na,n1,hm];first | done | rfl) | rfl | skip)
  ·simp(disch:=omega) only[go_sem,seval,reduceCtorEq,lx,ly,d1,d2,d3,gx,gy,hor, ← a4 rfl]
   refine⟨by omega, ?_⟩
   (refine Next.drop (mkB 96 39614081257132168796771942656) (by omega) (h1:= ?_) (h2:= ?_)<;>first | (simp only[go_sem,seval,reduceCtorEq,nz,na,n1,hm];first | done | rfl) | rfl | skip)
  ·have hp:=hlow (.inr (.inl rfl))
   have hp0:pp≠0:=by omega
   simp(disch:=omega) only[go_sem,seval,reduceCtorEq,lx,ly,d1,d2,d3,gx,gy,hp0,ne_eq,not_false_eq_true, ← a5 (.inr (.inl rfl))]
   refine⟨by omega, ?_⟩
   (refine Next.drop (mkB 96 39614081257132168796771942656) (by omega) (h1:= ?_) (h2:= ?_)<;>first | (simp only[go_sem,seval,reduceCtorEq,nz,na,n1,hm];first | done | rfl) | rfl | skip)
  ·have hp:=hlow (.inr (.inr rfl))
   have hp0:pp≠0:=by omega
   simp(disch:=omega) only[go_sem,seval,reduceCtorEq,lx,ly,d1,d2,d3,gx,gy,hp0,ne_eq,not_false_eq_true, ← a5 (.inr (.inr rfl))]
   refine⟨by omega, ?_⟩
   (refine Next.drop (mkB 96 39614081257132168796771942656) (by omega) (h1:= ?_) (h2:= ?_)<;>first | (simp only[go_sem,seval,reduceCtorEq,nz,na,n1,hm];first | done | rfl) | rfl | skip)
 ·have d1:¬ (k:Int)<wd:=by omega
  have hm:mix (addE ⟨kk,pp,nn⟩ x y) (List.replicate wd 0) k=addE ⟨kk,pp,nn⟩ x y:=jf (by omega) (by omega)
  simp(disch:=omega) only[go_sem,seval,reduceCtorEq,lx,d1,hm]
  (refine zE ?_ ?_<;>try simp only[go_sem,seval,reduceCtorEq])
set_option maxHeartbeats 1600000 in
theorem ER {kk pp nn:Int} {xs y:List Int} {off wd:Nat} (hr:ah ⟨kk,pp,nn⟩=true) (hw:ai ⟨kk,pp,nn⟩=wd) (hx:fits ⟨kk,pp,nn⟩ ((xs.drop off).take wd)) (hy:fits ⟨kk,pp,nn⟩ y) (ly:y.length=wd) (ho:off+wd≤xs.length) (hl:xs.length≤1099511627776):
  Does Tryz.prog 83 [bo kk pp nn,.own 0 off wd,.d (ints y)] [some ⟨1,false,iv xs⟩] (.tup []) [some ⟨1,false,iv (putE xs off (addE ⟨kk,pp,nn⟩ ((xs.drop off).take wd) y))⟩]:=by
 have hwb:=cr hr
 have htb:=dS hr
 have hor:∀ a b:Int,IntKind.i64.wrap (BitVec.ofInt 64 a||| BitVec.ofInt 64 b).toNat=orI a b:=fun _ _=>rfl
 have lx:((xs.drop off).take wd).length=wd:=by rw[List.length_take,List.length_drop];omega
 have hput0:putE xs off ((xs.drop off).take wd)=xs:=by
  unfold putE
  rw[lx,List.append_assoc, ← List.drop_drop,List.take_append_drop,List.take_append_drop]
 have hlow:=fun h=>(bE (r:=⟨kk,pp,nn⟩) hr hx h).2
 simp only at hlow
 generalize hcx:(xs.drop off).take wd=x at*
 have hal:=jr (r:=⟨kk,pp,nn⟩) lx ly
 have hml:(addE ⟨kk,pp,nn⟩ x y).length=x.length:=by rw[hal,lx]
 have hgx:∀ k,k<wd→xs[off+k]? =some (x.getD k 0):=fun k hk=>by
  have h1:=uW (xs:=xs) (ys:=x) (off:=off) (k:=k) (by omega) (by omega)
  rwa [hput0]at h1
 (refine spec_of (by kernel_rfl) Tryz.func83 wg (fnOk (nb rfl) ?_);unfold pI)
 (simp only[Nat.reduceSub,Zl,zn,Nat.reduceAdd,zF];try simp only[af]);(simp only[go_sem,seval,reduceCtorEq,List.replicate])
 by_cases hpoly:kk=2∨kk=7∨kk=8
 ·have hp:=hlow hpoly
  have hp0:pp≠0:=by omega
  have k1:(kk==1)=false:=by simp;omega
  have k3:(kk==3)=false:=by simp;omega
  have k4:(kk==4)=false:=by simp;omega
  have k5:(kk==5)=false:=by simp;omega
  have k6:(kk==6)=false:=by simp;omega
  simp(disch:=omega) only[go_sem,seval,reduceCtorEq,k1,k3,k4,k5,k6]
  have hpm0:putE xs off (mix (addE ⟨kk,pp,nn⟩ x y) x 0)=xs:=by rw[cx,hput0]
  refine aP (wd) (mkB 77 1073737792) (fun k=>[(11,.d (.int k))]) (fun k=>[(0,iv (putE xs off (mix (addE ⟨kk,pp,nn⟩ x y) x k)))]) (h1:=by first | (simp only[go_sem,seval,reduceCtorEq,nz,na,n1,hpm0];first | done | rfl) | rfl) (h2:=by first | (simp only[go_sem,seval,reduceCtorEq,nz,na,n1,hpm0];first | done | rfl) | rfl) (hr:=fun k hk=> ?_)
  unfold ny
  have hmk:(mix (addE ⟨kk,pp,nn⟩ x y) x k).length=wd:=by rw[kw hml,hal]
  have hpl:=bX (xs:=xs) (off:=off) (ys:=mix (addE ⟨kk,pp,nn⟩ x y) x k) (by omega)
  by_cases hlt:k<wd
  ·have d1:(k:Int)<wd:=by omega
   have d2:(k:Int)<y.length:=by omega
   have hkx:k<x.length:=by omega
   have hky:k<y.length:=by omega
   have gy:y[k]? =some y[k]:=zg hky
   have bx:=hx k hkx
   have bY:=hy k hky
   rw[ae hkx]at bx
   rw[ae hky]at bY
   have hgm:(mix (addE ⟨kk,pp,nn⟩ x y) x k).getD k 0=x[k]:=by
    rw[zq,CU hml,if_neg (by omega),zg hkx];rfl
   have gm:=uW (xs:=xs) (ys:=mix (addE ⟨kk,pp,nn⟩ x y) x k) (off:=off) (k:=k) (by omega) (by omega)
   rw[hgm]at gm
   have hm:=gO hml (x4 (r:=⟨kk,pp,nn⟩) hkx hky)
   have hq:=vy (xs:=xs) (ys:=mix (addE ⟨kk,pp,nn⟩ x y) x k) (off:=off) (k:=k) (v:=add1 ⟨kk,pp,nn⟩ x[k] y[k]) (by omega) (by omega)
   rw[← dj (by omega),hm]at hq
   have a5:=(Ck (r:=⟨kk,pp,nn⟩) x[k] y[k]).2.2.2.2 hpoly
   simp only at a5
   generalize hae:x[k]=a at*
   generalize hbe:y[k]=b at*
   simp(disch:=omega) only[go_sem,seval,reduceCtorEq,d1,d2,gm,gy,hp0,ne_eq,not_false_eq_true, ← a5]
   refine⟨by omega, ?_⟩
   (refine Next.drop (mkB 77 1073737792) (by omega) (h1:= ?_) (h2:= ?_)<;>first | (simp only[go_sem,seval,reduceCtorEq,nz,na,n1,hq];first | done | rfl) | rfl | skip)
  ·have d1:¬ (k:Int)<wd:=by omega
   have hm:mix (addE ⟨kk,pp,nn⟩ x y) x k=addE ⟨kk,pp,nn⟩ x y:=jf (by omega) (by omega)
   simp(disch:=omega) only[go_sem,seval,reduceCtorEq,d1,hm]
   (refine zE ?_ ?_<;>try simp only[go_sem,seval,reduceCtorEq])
 have hwd1:wd=1:=by have:=oN (r:=⟨kk,pp,nn⟩) hr (by simp only;omega);omega
 subst hwd1
 have gx:=hgx 0 (by omega)
 have gy:y[0]? =some (y.getD 0 0):=by rw[ae (by omega)];exact zg (by omega)
 have bx:=hx 0 (by omega)
 have bY:=hy 0 (by omega)
 have c1:(0:Int)<(1:Nat):=by omega
 have c3:(0:Int)<y.length:=by omega
 have c4:off+1≤xs.length:=by omega
 have he:addE ⟨kk,pp,nn⟩ x y=[add1 ⟨kk,pp,nn⟩ (x.getD 0 0) (y.getD 0 0)]:=by
  match x,y,lx,ly with
  | [a],[b],_,_=>rfl
 have hput:∀ v:Int,xs.take off++[v]++xs.drop (off+1)=putE xs off [v]:=fun v=>rfl
 obtain⟨a1,a2,a3,a4,a5⟩:=Ck (r:=⟨kk,pp,nn⟩) (x.getD 0 0) (y.getD 0 0)
 simp only at a1 a2 a3 a4 a5
 rw[Nat.add_zero]at gx
 generalize hae:x.getD 0 0=a at*
 generalize hbe:y.getD 0 0=b at*
 rcases aO hr with h | h | h | h | h | h | h | h<;>simp only at h<;>obtain⟨rfl,h⟩:=h
 ·simp(disch:=omega) only[go_sem,seval,reduceCtorEq,gx,gy,c1,c3,c4]
  (refine zE ?_ ?_<;>try simp only[go_sem,seval,reduceCtorEq])
  rw[hput,he,a1 (.inl rfl)]
 ·exact absurd (.inl rfl) hpoly
 ·simp(disch:=omega) only[go_sem,seval,reduceCtorEq,gx,gy,c1,c3,c4]
  (refine zE ?_ ?_<;>try simp only[go_sem,seval,reduceCtorEq])
  rw[hput,he,a2 rfl]
 ·simp(disch:=omega) only[go_sem,seval,reduceCtorEq,gx,gy,c1,c3,c4]
  (refine zE ?_ ?_<;>try simp only[go_sem,seval,reduceCtorEq])
  rw[hput,he,a3 rfl]
 ·simp(disch:=omega) only[go_sem,seval,reduceCtorEq,gx,gy,c1,c3,c4]
  (refine zE ?_ ?_<;>try simp only[go_sem,seval,reduceCtorEq])
  rw[hput,he,a1 (.inr rfl)]
 ·simp(disch:=omega) only[go_sem,seval,reduceCtorEq,gx,gy,c1,c3,c4]
  (refine zE ?_ ?_<;>try simp only[go_sem,seval,reduceCtorEq])
  rw[hput,hor,he,a4 rfl]
 ·exact absurd (.inr (.inl rfl)) hpoly
 ·exact absurd (.inr (.inr rfl)) hpoly
def alR (r:Rg) (a b:Ten):Ten:=bif alB r a b then ⟨a.labels,a.dims,(alT r a b).data⟩ else ⟨[],[],[]⟩
set_option maxRecDepth 100000
theorem qR {ls keep:List Int} (h:ls.length≤1048576) (hk:keep.length≤1048576):Does Tryz.prog 75 [.d (ints ls),.d (ints keep)] [] (.own 0 0 (ls.filter (has keep)).length) [some ⟨1,true,iv (ls.filter (has keep))⟩]:=by
 (refine spec_of (by kernel_rfl) Tryz.func75 uG (fnOk (nb rfl) ?_);unfold nJ)
 (simp only[Nat.reduceSub,Zl,zn,Nat.reduceAdd,zF];try simp only[af]);(simp only[go_sem,seval,reduceCtorEq,List.replicate])
 (refine ir (Wk.nilE 5 1 _ _ rfl) ?_;simp only[go_sem,seval,reduceCtorEq])
 refine aP (ls.length) (mkB 23 4192384) (fun k=>[(5,.own 0 0 ((ls.take k).filter (has keep)).length),(10,.d (.int k))]) (fun k=>[(0,iv ((ls.take k).filter (has keep)))]) (h1:=by first | (simp only[go_sem,seval,reduceCtorEq,nz,na,n1,List.take_zero,List.filter_nil,cj];first | done | rfl) | rfl) (h2:=by first | (simp only[go_sem,seval,reduceCtorEq,nz,na,n1,List.take_zero,List.filter_nil,cj];first | done | rfl) | rfl) (hr:=fun k hk=> ?_)
 unfold m7
 have hfl:=fV ls k (has keep)
 by_cases hlt:k<ls.length
 ·have d1:(k:Int)<ls.length:=by omega
  have g:ls[k]? =some ls[k]:=zg hlt
  simp(disch:=omega) only[go_sem,seval,reduceCtorEq,d1,g]
  (refine zC (fo (xs:=keep) (x:=ls[k]) (by omega)) ?_)
  cases hh:has keep ls[k]
  ·have e:=lT (p:=has keep) hlt hh
   simp(disch:=omega) only[go_sem,seval,reduceCtorEq,hh]
   (refine Next.drop (mkB 23 4192384) (by omega) (h1:= ?_) (h2:= ?_)<;>first | (simp only[go_sem,seval,reduceCtorEq,nz,na,n1,e];first | done | rfl) | rfl | skip)
  ·have e:=mT (p:=has keep) hlt hh
   simp(disch:=omega) only[go_sem,seval,reduceCtorEq,hh]
   (repeat (refine And.intro (by omega) ?_))
   (refine Next.drop (mkB 23 4192384) (by omega) (h1:= ?_) (h2:= ?_)<;>first | (simp only[go_sem,seval,reduceCtorEq,nz,na,n1,e,List.length_append];first | done | rfl) | rfl | skip)
 ·have d1:¬ (k:Int)<ls.length:=by omega
  obtain rfl:k=ls.length:=by omega
  simp(disch:=omega) only[go_sem,seval,reduceCtorEq,d1,List.take_length]
  (refine zE ?_ ?_<;>try simp only[go_sem,seval,reduceCtorEq])
theorem xv {kk pp:Int} {wd:Nat} (h:1≤wd) (h4:kk=4):iv (az kk pp wd)=.d (.int pp) :: iv (List.drop 1 (List.replicate wd (0:Int))):=by
 obtain⟨w,rfl⟩:∃ w,wd=w+1:=⟨wd-1,by omega⟩
 unfold az
 rw[if_pos h4]
 rfl
theorem DN {kk pp nn:Int} {wd:Nat} (hw:ai ⟨kk,pp,nn⟩=wd) (h1:1≤wd∧wd≤6):Does Tryz.prog 77 [bo kk pp nn] [] (.own 0 0 wd) [some ⟨1,true,iv (az kk pp wd)⟩]:=by
 have hz:=bR kk pp wd
 (refine spec_of (by kernel_rfl) Tryz.func77 w9 (fnOk (nb rfl) ?_);unfold pG)
 (simp only[Nat.reduceSub,Zl,zn,Nat.reduceAdd,zF];try simp only[af]);(simp only[go_sem,seval,reduceCtorEq,List.replicate])
 (refine aA (fN kk pp nn) ?_ ?_ ?_;(focus (simp only[go_sem,seval,reduceCtorEq,hw];done));(first | rfl | (focus (simp only[go_sem];done))))
 simp(disch:=omega) only[go_sem,seval,reduceCtorEq,hw]
 refine And.intro ⟨by omega,by omega⟩ ?_
 by_cases h4:kk=4
 ·have c:(kk==4)=true:=by simp [h4]
  have e:=xv (pp:=pp) h1.1 h4
  have hlr:(List.replicate wd (0:Int)).length=wd:=List.length_replicate
  simp(disch:=omega) only[go_sem,seval,reduceCtorEq,c]
  refine⟨by omega,by rw[hlr];omega, ?_⟩
  rw[e]
  (refine zE ?_ ?_<;>try simp only[go_sem,seval,reduceCtorEq])
 ·have c:(kk==4)=false:=by simp [h4]
  have e:az kk pp wd=List.replicate wd 0:=by rw[az,if_neg h4]
  simp(disch:=omega) only[go_sem,seval,reduceCtorEq,c,e]
  (refine zE ?_ ?_<;>try simp only[go_sem,seval,reduceCtorEq])
theorem xZ {kk pp nn:Int} {wd:Nat} (hw:ai ⟨kk,pp,nn⟩=wd) (h1:1≤wd∧wd≤6):Does Tryz.prog 121 [bo kk pp nn] [] (.own 0 0 wd) [some ⟨1,true,iv (az kk pp wd)⟩]:=by
 have hz:=bR kk pp wd
 (refine spec_of (by kernel_rfl) Tryz.func121 w4 (fnOk (nb rfl) ?_);unfold pA)
 (simp only[Nat.reduceSub,Zl,zn,Nat.reduceAdd,zF];try simp only[af]);(simp only[go_sem,seval,reduceCtorEq,List.replicate])
 (refine aA (fR kk pp nn) ?_ ?_ ?_;(focus (simp only[go_sem,seval,reduceCtorEq,hw];done));(first | rfl | (focus (simp only[go_sem];done))))
 simp(disch:=omega) only[go_sem,seval,reduceCtorEq,hw]
 refine And.intro ⟨by omega,by omega⟩ ?_
 by_cases h4:kk=4
 ·have c:(kk==4)=true:=by simp [h4]
  have e:=xv (pp:=pp) h1.1 h4
  have hlr:(List.replicate wd (0:Int)).length=wd:=List.length_replicate
  simp(disch:=omega) only[go_sem,seval,reduceCtorEq,c]
  refine⟨by omega,by rw[hlr];omega, ?_⟩
  rw[e]
  (refine zE ?_ ?_<;>try simp only[go_sem,seval,reduceCtorEq])
 ·have c:(kk==4)=false:=by simp [h4]
  have e:az kk pp wd=List.replicate wd 0:=by rw[az,if_neg h4]
  simp(disch:=omega) only[go_sem,seval,reduceCtorEq,c,e]
  (refine zE ?_ ?_<;>try simp only[go_sem,seval,reduceCtorEq])
theorem xX {kk pp nn:Int} {wd n:Nat} {ls ds:List Int} (hw:ai ⟨kk,pp,nn⟩=wd) (h1:1≤wd∧wd≤6) (hls:ls.length≤1048576) (hds:ds.length≤1048576) (hd:∀ d∈ds,1≤d∧d≤100) (hn:aa ds=n) (hn2:n≤4096):
  Does Tryz.prog 92 [bo kk pp nn,.d (ints ls),.d (ints ds)] [] (ownT 0 ⟨ls,ds,repE (az kk pp wd) n⟩) (stoT ⟨ls,ds,repE (az kk pp wd) n⟩):=by
 have hz:=bR kk pp wd
 have hmn:min (aa ds) 4097=(n:Int):=by omega
 (refine spec_of (by kernel_rfl) Tryz.func92 vV (fnOk (nb rfl) ?_);unfold pu)
 (simp only[Nat.reduceSub,Zl,zn,Nat.reduceAdd,zF];try simp only[af]);(simp only[go_sem,seval,reduceCtorEq,List.replicate])
 (refine zC (te (xs:=ls) (by omega)) ?_)
 simp only[go_sem,seval,reduceCtorEq]
 (refine zC (te (xs:=ds) (by omega)) ?_)
 simp only[go_sem,seval,reduceCtorEq]
 (refine aA (ix (ds:=ds) (lim:=4096) (by omega) hd (by omega)) ?_ ?_ ?_;(focus (simp only[go_sem,seval,reduceCtorEq,hmn];done));(first | rfl | (focus (simp only[go_sem];done))))
 simp only[go_sem,seval,reduceCtorEq,hmn]
 (refine ir (Wk.nilS 4 2 1 _ _ _ rfl rfl) ?_;simp only[go_sem,seval,reduceCtorEq])
 have hr0:repE (az kk pp wd) 0=[]:=rfl
 refine aP (n) (mkB 27 67043328) (fun k=>[(8,.d (.int ((n:Int)-k)))]) (fun k=>[(4,[.own 2 0 ls.length,.own 3 0 ds.length,.own 5 0 (repE (az kk pp wd) k).length]),(5,iv (repE (az kk pp wd) k))]) (h1:=by first | (simp only[go_sem,seval,reduceCtorEq,nz,na,n1,hr0,cj,Int.sub_zero];first | done | rfl) | rfl) (h2:=by first | (simp only[go_sem,seval,reduceCtorEq,nz,na,n1,hr0,cj,Int.sub_zero];first | done | rfl) | rfl) (hr:=fun k hk=> ?_)
 unfold nm
 have hrl:=dY (az kk pp wd) k
 have hkw:k*wd≤4096*6:=Nat.mul_le_mul (by omega) h1.2
 rw[hz]at hrl
 by_cases hlt:k<n
 ·have d1:(n:Int)-k>0:=by omega
  have e8:(n:Int)-k-1=(n:Int)-(k+1):=by omega
  simp(disch:=omega) only[go_sem,seval,reduceCtorEq,d1]
  (refine zD (xZ (kk:=kk) (pp:=pp) (nn:=nn) hw h1) ?_)
  have htz:List.take wd (az kk pp wd)=az kk pp wd:=zt (by omega)
  have hle:(wd≤wd)=True:=by simp
  simp(disch:=omega) only[go_sem,seval,reduceCtorEq,hz,htz,hle,if_true]
  (repeat (refine And.intro (by omega) ?_))
  have hrn:repE (az kk pp wd) (k+1)=repE (az kk pp wd) k++az kk pp wd:=rfl
  (refine Next.drop (mkB 27 67043328) (by omega) (h1:= ?_) (h2:= ?_)<;>first | (simp only[go_sem,seval,reduceCtorEq,nz,na,n1,hrn,e8,List.length_append,hz];first | done | rfl) | rfl | skip)
 ·have d1:¬ (n:Int)-k>0:=by omega
  obtain rfl:k=n:=by omega
  simp(disch:=omega) only[go_sem,seval,reduceCtorEq,d1]
  (refine zE ?_ ?_<;>try simp only[go_sem,seval,reduceCtorEq])
theorem zz {kk pp nn:Int} {wd n:Nat} {ls ds z:List Int} (hz:z.length=wd) (h1:1≤wd∧wd≤6) (hls:ls.length≤1048576) (hds:ds.length≤1048576) (hd:∀ d∈ds,1≤d) (hn:aa ds=n) (hn2:n≤4096):
  Does Tryz.prog 76 [bo kk pp nn,.d (ints ls),.d (ints ds),.d (ints z)] [] (ownT 0 ⟨ls,ds,repE z n⟩) (stoT ⟨ls,ds,repE z n⟩):=by
 (refine spec_of (by kernel_rfl) Tryz.func76 rZ (fnOk (nb rfl) ?_);unfold lf)
 (simp only[Nat.reduceSub,Zl,zn,Nat.reduceAdd,zF];try simp only[af]);(simp only[go_sem,seval,reduceCtorEq,List.replicate])
 (refine zC (fW (xs:=ls) (by omega)) ?_)
 simp only[go_sem,seval,reduceCtorEq]
 (refine zC (fW (xs:=ds) (by omega)) ?_)
 simp only[go_sem,seval,reduceCtorEq]
 (refine zC (nX (ds:=ds) (by omega) hd (by omega)) ?_)
 have hnw:n*wd≤4096*6:=Nat.mul_le_mul hn2 h1.2
 have hm:((n:Int)*(z.length:Int))=((n*wd:Nat):Int):=by rw[hz,Int.natCast_mul]
 simp(disch:=omega) only[go_sem,seval,reduceCtorEq,hn,hm]
 refine And.intro (by omega) ?_
 have hr0:repE z 0=[]:=rfl
 refine aP (n) (mkB 36 34334572544) (fun k=>[(11,.d (.int k))]) (fun k=>[(4,[.own 2 0 ls.length,.own 3 0 ds.length,.own 5 0 (repE z k).length]),(5,iv (repE z k))]) (h1:=by first | (simp only[go_sem,seval,reduceCtorEq,nz,na,n1,hr0,cj,zn];first | done | rfl) | rfl) (h2:=by first | (simp only[go_sem,seval,reduceCtorEq,nz,na,n1,hr0,cj,zn];first | done | rfl) | rfl) (hr:=fun k hk=> ?_)
 unfold jQ
 have hrl:=dY z k
 have hkw:k*wd≤4096*6:=Nat.mul_le_mul (by omega) h1.2
 rw[hz]at hrl
 by_cases hlt:k<n
 ·have d1:(k:Int)<n:=by omega
  have hrn:repE z (k+1)=repE z k++z:=rfl
  simp(disch:=omega) only[go_sem,seval,reduceCtorEq,d1]
  (repeat (refine And.intro (by omega) ?_))
  (refine Next.drop (mkB 36 34334572544) (by omega) (h1:= ?_) (h2:= ?_)<;>first | (simp only[go_sem,seval,reduceCtorEq,nz,na,n1,hrn,List.length_append];first | done | rfl) | rfl | skip)
 ·have d1:¬ (k:Int)<n:=by omega
  obtain rfl:k=n:=by omega
  simp(disch:=omega) only[go_sem,seval,reduceCtorEq,d1]
  (refine zE ?_ ?_<;>try simp only[go_sem,seval,reduceCtorEq])
set_option maxRecDepth 100000
theorem M7:dv []=[]:=nr rfl
set_option maxRecDepth 100000
theorem zy {kk pp nn:Int} {wd n:Nat} {ls ds z:List Int} (hz:z.length=wd) (h1:1≤wd∧wd≤6) (hls:ls.length≤1048576) (hds:ds.length≤1048576) (hd:∀ d∈ds,1≤d) (hn:aa ds=n) (hn2:n≤4096):
  Does Tryz.prog 76 [bo kk pp nn,.d (ints ls),.d (ints ds),.d (ints z)] [] (ownT 0 ⟨ls,ds,repE z n⟩) (stoF ⟨ls,ds,repE z n⟩):=(zz hz h1 hls hds hd hn hn2).nog [0,1,2] rfl
def conX (r:Rg) (wd:Nat) (a b:Ten):Nat→List Int
 | 0=>List.replicate wd 0
 | i+1=>conE r wd a b i
theorem H8 {r:Rg} {a b:Ten} {keep:List Int} {wd ua ub n N:Nat} (h:ConOk r a b keep wd ua ub n N):∀ i,(conX r wd a b i).length=wd
 | 0=>by simp [conX]
 | i+1=>h.el i
theorem FJ {xs ys:List Int} (h:xs.length=ys.length):putE xs 0 ys=ys:=by simp [putE,h]
set_option maxHeartbeats 2000000 in
theorem uJ {kk pp nn:Int} {a b:Ten} {keep:List Int} (za:I64 kk) (zb:I64 pp) (zc:I64 nn) (ha:TSz 1048576 a) (hb:TSz 1048576 b) (hk:Sz 1048576 keep):
  Does Tryz.prog 32 [bo kk pp nn,tenA a,tenA b,.d (ints keep)] [] (.tup [ownT 0 (conT ⟨kk,pp,nn⟩ a b keep),.d (.bool (conB ⟨kk,pp,nn⟩ a b keep))]) (stoF (conT ⟨kk,pp,nn⟩ a b keep)):=by
 have hno:conB ⟨kk,pp,nn⟩ a b keep=false→conT ⟨kk,pp,nn⟩ a b keep=⟨[],[],[]⟩:=J9
 have hkl:=hk.len
 (refine spec_of (by kernel_rfl) Tryz.func32 qc (fnOk (nb rfl) ?_);unfold iq)
 (simp only[Nat.reduceSub,Zl,zn,Nat.reduceAdd,zF];try simp only[af]);(simp only[go_sem,seval,reduceCtorEq,List.replicate])
 (refine zC (eJ (t:=a) za zb zc ha.up) ?_)
 cases h1:aE ⟨kk,pp,nn⟩ a.labels a.dims a.data
 ·have e:conB ⟨kk,pp,nn⟩ a b keep=false:=by simp only[conB,h1,Bool.false_and]
  simp only[go_sem,seval,reduceCtorEq,h1,e,hno e]
  refine FnEnd.wk (Wk.trans (Wk.nilS 3 0 1 _ _ _ rfl rfl) (Wk.trans (Wk.nilS 3 1 1 _ _ _ rfl rfl) (Wk.trans (Wk.nilS 3 2 1 _ _ _ rfl rfl) Wk.nogA))) ?_
  (refine zE ?_ ?_<;>try simp only[go_sem,seval,reduceCtorEq])
 simp only[go_sem,seval,reduceCtorEq,h1]
 (refine zC (eJ (t:=b) za zb zc hb.up) ?_)
 cases h2:aE ⟨kk,pp,nn⟩ b.labels b.dims b.data
 ·have e:conB ⟨kk,pp,nn⟩ a b keep=false:=by simp only[conB,h2,Bool.false_and,Bool.and_false]
  simp only[go_sem,seval,reduceCtorEq,h2,e,hno e]
  refine FnEnd.wk (Wk.trans (Wk.nilS 3 0 1 _ _ _ rfl rfl) (Wk.trans (Wk.nilS 3 1 1 _ _ _ rfl rfl) (Wk.trans (Wk.nilS 3 2 1 _ _ _ rfl rfl) Wk.nogA))) ?_
  (refine zE ?_ ?_<;>try simp only[go_sem,seval,reduceCtorEq])
 simp only[go_sem,seval,reduceCtorEq,h2]
 obtain⟨wa,ua,a1,a2,a3,a4,a5,a6,a7,a8,a9,a10⟩:=eD h1
 obtain⟨wb,ub,b1,b2,b3,b4,b5,b6,b7,b8,b9,b10⟩:=eD h2
 have hll:=pY a.labels b.labels
 have l1:=a10.1
 have l2:=b10.1
 have hjd:=tF a b
 have hpj:=wn a10 b10 (by omega) (by omega)
 cases hj:i0 a b
 ·have e:conB ⟨kk,pp,nn⟩ a b keep=false:=by simp only[conB,hj,Bool.and_false,Bool.false_and]
  (refine zC (AZ a10 b10 hj) ?_)
  simp only[go_sem,seval,reduceCtorEq,e,hno e]
  refine FnEnd.wk (Wk.trans (Wk.nilS 3 0 1 _ _ _ rfl rfl) (Wk.trans (Wk.nilS 3 1 1 _ _ _ rfl rfl) (Wk.trans (Wk.nilS 3 2 1 _ _ _ rfl rfl) Wk.nogA))) ?_
  (refine zE ?_ ?_<;>try simp only[go_sem,seval,reduceCtorEq])
 (refine zC (BY a10 b10 hj) ?_)
 have htj:List.take (ao a.labels b.labels).length (aD a b)=aD a b:=zt (by omega)
 simp only[go_sem,seval,reduceCtorEq]
 (refine aA (nX (ds:=aD a b) (by omega) (fun d hd=>(s9 a10 b10 d hd).1) (by omega)) ?_ ?_ ?_;(focus (simp only[go_sem,seval,reduceCtorEq,hjd,htj];done));(first | rfl | (focus (simp only[go_sem];done))))
 by_cases hp:aa (aD a b)≤65536
 rotate_left
 ·have e:conB ⟨kk,pp,nn⟩ a b keep=false:=by rw[conB,decide_eq_false hp];simp
  have c:aa (aD a b)>65536:=by omega
  simp only[go_sem,seval,reduceCtorEq,c,e,hno e]
  refine FnEnd.wk (Wk.trans (Wk.nilS 3 0 1 _ _ _ rfl rfl) (Wk.trans (Wk.nilS 3 1 1 _ _ _ rfl rfl) (Wk.trans (Wk.nilS 3 2 1 _ _ _ rfl rfl) Wk.nogA))) ?_
  (refine zE ?_ ?_<;>try simp only[go_sem,seval,reduceCtorEq])
 have c:¬ aa (aD a b)>65536:=by omega
 simp only[go_sem,seval,reduceCtorEq,c]
 (refine zC (qR (ls:=ao a.labels b.labels) (keep:=keep) (by omega) hkl) ?_)
 have hfl:(conK a b keep).length≤24:=by
  have:=fV (ao a.labels b.labels) (ao a.labels b.labels).length (has keep)
  rw[List.take_length]at this
  show ((ao a.labels b.labels).filter (has keep)).length≤24
  omega
 have hcl:(conD a b keep).length=(conK a b keep).length:=List.length_map ..
 have hnd:(conL a b).Nodup:=wm (bI a10) (bI b10)
 rw[show (ao a.labels b.labels).filter (has keep)=conK a b keep from rfl,show ao a.labels b.labels=conL a b from rfl]
 rw[show ao a.labels b.labels=conL a b from rfl]at hll hjd htj
 simp(disch:=omega) only[go_sem,seval,reduceCtorEq]
 refine⟨by omega, ?_⟩
 refine aP ((conK a b keep).length) (mkB 141 38685623921825124377395200) (fun k=>[(60,.d (.int k))]) (fun k=>[(7,iv (mix (conD a b keep) (List.replicate (conK a b keep).length 0) k))]) (h1:=by first | (simp only[go_sem,seval,reduceCtorEq,nz,na,n1,cx];first | done | rfl) | rfl) (h2:=by first | (simp only[go_sem,seval,reduceCtorEq,nz,na,n1,cx];first | done | rfl) | rfl) (hr:=fun k hk=> ?_)
 unfold gS
 have hmz:(conD a b keep).length=(List.replicate (conK a b keep).length (0:Int)).length:=by simp [hcl]
 by_cases hlt:k<(conK a b keep).length
 ·have d1:(k:Int)<(conK a b keep).length:=by omega
  have g:(conK a b keep)[k]? =some (conK a b keep)[k]:=zg hlt
  have hKm:(conK a b keep)[k]∈conL a b:=(List.mem_filter.1 (List.getElem_mem hlt)).1
  simp(disch:=omega) only[go_sem,seval,reduceCtorEq,d1,g]
  refine aP ((conL a b).length) (mkB 141 19342517965928887442866176) (fun q=>[(67,.d (.int q))]) (fun q=>[(7,iv (mix (conD a b keep) (List.replicate (conK a b keep).length 0) (if (conK a b keep)[k]∈(conL a b).take q then k+1 else k)))]) (h1:=by first | (simp only[go_sem,seval,reduceCtorEq,nz,na,n1,List.take_zero,List.not_mem_nil,if_false];first | done | rfl) | rfl) (h2:=by first | (simp only[go_sem,seval,reduceCtorEq,nz,na,n1,List.take_zero,List.not_mem_nil,if_false];first | done | rfl) | rfl) (hr:=fun q hq=> ?_)
  unfold gU
  by_cases hltq:q<(conL a b).length
  ·have d2:(q:Int)<(conL a b).length:=by omega
   have d3:(q:Int)<(aD a b).length:=by omega
   have gq:(conL a b)[q]? =some (conL a b)[q]:=zg hltq
   have gd:(aD a b)[q]? =some ((aD a b).getD q 0):=by rw[ae (by omega)];exact zg (by omega)
   have hfr:=jk hnd hltq
   by_cases hx:(conL a b)[q]=(conK a b keep)[k]
   ·have hxe:((conL a b)[q]==(conK a b keep)[k])=true:=by simp [hx]
    have e0:¬ (conK a b keep)[k]∈(conL a b).take q:=by rw[← hx];exact hfr
    have e1:(conK a b keep)[k]∈(conL a b).take (q+1):=by rw[bb hltq];exact List.mem_append_right _ (by rw[hx];exact List.mem_singleton_self _)
    have hml:=kw (k:=k) hmz
    have hmn:=gO (k:=k) hmz (show (conD a b keep)[k]? =some ((aD a b).getD q 0)by
     rw[← Ce hnd hltq,hx,conD,List.getElem?_map,g];rfl)
    simp(disch:=omega) only[go_sem,seval,reduceCtorEq,d2,gq,hxe,d1,d3,gd,e0]
    refine⟨by omega, ?_⟩
    (refine Next.drop (mkB 141 19342517965928887442866176) (by omega) (h1:= ?_) (h2:= ?_)<;>first | (simp only[go_sem,seval,reduceCtorEq,nz,na,n1,hmn,e1];first | done | rfl) | rfl | skip)
   ·have hxe:((conL a b)[q]==(conK a b keep)[k])=false:=by simp [hx]
    have e1:((conK a b keep)[k]∈(conL a b).take (q+1))=((conK a b keep)[k]∈(conL a b).take q):=by
     rw[bb hltq,List.mem_append,List.mem_singleton,eq_iff_iff]
     exact⟨fun h=>h.resolve_right (fun e=>hx e.symm),.inl⟩
    simp(disch:=omega) only[go_sem,seval,reduceCtorEq,d2,gq,hxe]
    (refine Next.drop (mkB 141 19342517965928887442866176) (by omega) (h1:= ?_) (h2:= ?_)<;>first | (simp only[go_sem,seval,reduceCtorEq,nz,na,n1,e1];first | done | rfl) | rfl | skip)
  ·have d2:¬ (q:Int)<(conL a b).length:=by omega
   have htq:List.take q (conL a b)=conL a b:=zt (by omega)
   simp(disch:=omega) only[go_sem,seval,reduceCtorEq,d2,htq,hKm]
   (refine Next.drop (mkB 141 38685623921825124377395200) (by omega) (h1:= ?_) (h2:= ?_)<;>first | (simp only[go_sem,seval,reduceCtorEq,nz,na,n1];first | done | rfl) | rfl | skip)
 ·have d1:¬ (k:Int)<(conK a b keep).length:=by omega
  have hf:mix (conD a b keep) (List.replicate (conK a b keep).length 0) k=conD a b keep:=jf (by simp;omega) (by omega)
  have htk:List.take (conK a b keep).length (conD a b keep)=conD a b keep:=zt (by omega)
  simp(disch:=omega) only[go_sem,seval,reduceCtorEq,d1,hf]
  (refine aA (g9 (t:=⟨conK a b keep,conD a b keep,[]⟩) (Hc (keep:=keep) a10 b10 ha hb K4).up) ?_ ?_ ?_;(focus (simp only[go_sem,seval,reduceCtorEq,hcl,htk,M7];done));(first | rfl | (focus (simp only[go_sem];done))))
  rcases da (conK a b keep) (conD a b keep)with hs | ⟨s1,s2,s3,s4⟩
  ·have e:conB ⟨kk,pp,nn⟩ a b keep=false:=by rw[conB,hs];simp
   simp only[go_sem,seval,reduceCtorEq,hs,e,hno e]
   refine FnEnd.wk (Wk.trans (Wk.nilS 3 0 1 _ _ _ rfl rfl) (Wk.trans (Wk.nilS 3 1 1 _ _ _ rfl rfl) (Wk.trans (Wk.nilS 3 2 1 _ _ _ rfl rfl) Wk.nogA))) ?_
   (refine zE ?_ ?_<;>try simp only[go_sem,seval,reduceCtorEq])
  have e:conB ⟨kk,pp,nn⟩ a b keep=true:=by
   simp only[conB,hj,h1,h2,hp,Bool.true_and,decide_true]
   exact decide_eq_true (by omega)
  have c3:(aY (conK a b keep) (conD a b keep)== -1)=false:=by rw[s3];simp;omega
  obtain⟨wd,na',nb',n,N,h⟩:=Hb e
  have hwb:=h.wb
  have hpn:=h.io.pn
  have hn1:=h.io.n1
  have hpN:=h.pN
  have hN1:=h.N1
  simp only[go_sem,seval,reduceCtorEq,c3]
  (refine zD (DN (kk:=kk) (pp:=pp) (nn:=nn) h.w hwb) ?_)
  have hzt:List.take wd (az kk pp wd)=az kk pp wd:=zt (by rw[bR];omega)
  simp only[go_sem,seval,reduceCtorEq]
  (refine aA (zy (kk:=kk) (pp:=pp) (nn:=nn) (ls:=conK a b keep) (ds:=conD a b keep) (bR kk pp wd) hwb (by omega) (by omega) (fun d hd=>(s1.dim d hd).1) hpn hn1.2) ?_ ?_ ?_;(focus (simp only[go_sem,seval,reduceCtorEq,hcl,htk,bR,hzt];done));(first | rfl | (focus (simp only[go_sem];done))))
  simp only[go_sem,seval,reduceCtorEq]
  (refine zD (ki (t:=a) (L:=conL a b) a10 (by omega) (by omega)) ?_)
  simp only[go_sem,seval,reduceCtorEq]
  (refine zD (ki (t:=b) (L:=conL a b) b10 (by omega) (by omega)) ?_)
  simp only[go_sem,seval,reduceCtorEq]
  have hzl:=h.zl
  rw[show (Rg.mk kk pp nn).k=kk from rfl,show (Rg.mk kk pp nn).p=pp from rfl]at hzl
  have htz:List.take (n*wd) (repE (az kk pp wd) n)=repE (az kk pp wd) n:=zt (by omega)
  (refine aA (ki (t:=⟨conK a b keep,conD a b keep,repE (az kk pp wd) n⟩) (L:=conL a b) h.io.ax (by show aa (conD a b keep)≤4096;omega) (by omega)) ?_ ?_ ?_;(focus (simp only[go_sem,seval,reduceCtorEq,hcl,htk,hzl,htz];done));(first | rfl | (focus (simp only[go_sem];done))))
  simp(disch:=omega) only[go_sem,seval,reduceCtorEq]
  refine⟨by omega, ?_⟩
  have hw:=h.w
  (refine aA (fN kk pp nn) ?_ ?_ ?_;(focus (simp only[go_sem,seval,reduceCtorEq,hw];done));(first | rfl | (focus (simp only[go_sem];done))))
  simp(disch:=omega) only[go_sem,seval,reduceCtorEq,hw]
  refine⟨⟨by omega,by omega⟩, ?_⟩
  have hd0:List.replicate (conL a b).length 0=ac (aD a b) 0:=by rw[EG,hjd]
  have hc0:fq ⟨kk,pp,nn⟩ wd a b keep (repE (az kk pp wd) n) 0=repE (az kk pp wd) n:=rfl
  have hx0:List.replicate wd 0=conX ⟨kk,pp,nn⟩ wd a b 0:=rfl
  have hdb:∀ d∈aD a b,1≤d∧d≤1000:=fun d hd=>by have:=h.ia.dbd d hd;omega
  simp only[hd0,hx0]
  refine uL (0) (fun i=>N-i) (mkB 141 2787593144624031034157137155550548859027968) (fun i=>i<N) (fun i=>[]) (fun i=>[(12,iv (fq ⟨kk,pp,nn⟩ wd a b keep (repE (az kk pp wd) n) i)),(16,iv (ac (aD a b) (i:Int))),(17,iv (conX ⟨kk,pp,nn⟩ wd a b i))]) (hi:=by omega) (h1:=by first | (simp only[go_sem,seval,reduceCtorEq,nz,na,n1,hc0,hd0,hx0];first | done | rfl) | rfl) (h2:=by first | (simp only[go_sem,seval,reduceCtorEq,nz,na,n1,hc0,hd0,hx0];first | done | rfl) | rfl) (hr:=fun i hi=> ?_)
  unfold gY
  obtain⟨htl,htf⟩:=wO h h.zl h.zf i
  rw[show (Rg.mk kk pp nn).k=kk from rfl,show (Rg.mk kk pp nn).p=pp from rfl]at htl htf
  have hxl:=H8 h i
  have hdl:=be (aD a b) i
  have hdl1:=be (aD a b) (i+1)
  have hsa:(List.map (aj a.labels a.dims) (conL a b)).length=(conL a b).length:=List.length_map ..
  have hsb:(List.map (aj b.labels b.dims) (conL a b)).length=(conL a b).length:=List.length_map ..
  have hso:(List.map (aj (conK a b keep) (conD a b keep)) (conL a b)).length=(conL a b).length:=List.length_map ..
  have ta:List.take (conL a b).length (List.map (aj a.labels a.dims) (conL a b))=List.map (aj a.labels a.dims) (conL a b):=zt (by omega)
  have tb:List.take (conL a b).length (List.map (aj b.labels b.dims) (conL a b))=List.map (aj b.labels b.dims) (conL a b):=zt (by omega)
  have tO:List.take (conL a b).length (List.map (aj (conK a b keep) (conD a b keep)) (conL a b))=List.map (aj (conK a b keep) (conD a b keep)) (conL a b):=zt (by omega)
  have tx:List.take (conL a b).length (ac (aD a b) i)=ac (aD a b) i:=zt (by omega)
  obtain⟨oa,oa'⟩:=h.ia.off i
  obtain⟨ob,ob'⟩:=h.ib.off i
  obtain⟨oo,oo'⟩:=h.io.off i
  have hna:=h.ia.n1
  have hnb:=h.ib.n1
  have ca:=h.ia.cut h.la i
  have cb:=h.ib.cut h.lb i
  have co:=h.io.cut htl i
  have hnw:n*wd≤4096*6:=Nat.mul_le_mul hn1.2 hwb.2
  have hxa:=ha.x.len
  have hxb:=hb.x.len
  have hnx:fq ⟨kk,pp,nn⟩ wd a b keep (repE (az kk pp wd) n) (i+1)=putE (fq ⟨kk,pp,nn⟩ wd a b keep (repE (az kk pp wd) n) i) (bH (conK a b keep) (conD a b keep) (conL a b) (aD a b) i*wd) (addE ⟨kk,pp,nn⟩ (((fq ⟨kk,pp,nn⟩ wd a b keep (repE (az kk pp wd) n) i).drop (bH (conK a b keep) (conD a b keep) (conL a b) (aD a b) i*wd)).take wd) (conE ⟨kk,pp,nn⟩ wd a b i)):=rfl
  have hnX:conX ⟨kk,pp,nn⟩ wd a b (i+1)=conE ⟨kk,pp,nn⟩ wd a b i:=rfl
  obtain⟨hnl,_⟩:=wO h h.zl h.zf (i+1)
  rw[show (Rg.mk kk pp nn).k=kk from rfl,show (Rg.mk kk pp nn).p=pp from rfl]at hnl
  have hfin:=Ja h
  have hel:=h.el i
  have hef:=h.ef i
  have hmE:mulE ⟨kk,pp,nn⟩ ((a.data.drop (bH a.labels a.dims (conL a b) (aD a b) i*wd)).take wd) ((b.data.drop (bH b.labels b.dims (conL a b) (aD a b) i*wd)).take wd)=conE ⟨kk,pp,nn⟩ wd a b i:=rfl
  generalize fq ⟨kk,pp,nn⟩ wd a b keep (repE (az kk pp wd) n) i=X at*
  generalize conX ⟨kk,pp,nn⟩ wd a b i=Z at*
  generalize conE ⟨kk,pp,nn⟩ wd a b i=E at*
  have hpE:putE Z 0 E=E:=FJ (by omega)
  have htt:List.take (n*wd) X=X:=zt (by omega)
  have tE:List.take wd E=E:=zt (by omega)
  have tZ:List.take wd Z=Z:=zt (by omega)
  have la1:=gg ca
  have lb1:=gg cb
  have lo1:=gg co
  have had:=jr (r:=⟨kk,pp,nn⟩) lo1 hel
  have hpl:=bX (xs:=X) (off:=bH (conK a b keep) (conD a b keep) (conL a b) (aD a b) i*wd) (ys:=addE ⟨kk,pp,nn⟩ ((X.drop (bH (conK a b keep) (conD a b keep) (conL a b) (aD a b) i*wd)).take wd) E) (by omega)
  simp only[go_sem,seval,reduceCtorEq]
  (refine cE (v9 (a:=List.map (aj a.labels a.dims) (conL a b)) (b:=ac (aD a b) i) (by omega) (by omega) (fun q _=>h.ia.dotb i q)) ?_ ?_ ?_;(focus (simp only[go_sem,seval,reduceCtorEq,ta,tx,hsa,hdl,hjd];done));(first | rfl | (focus (simp only[go_sem];done))))
  simp only[go_sem,seval,reduceCtorEq,oa]
  (refine zD (sX (t:=a) (x:=bH a.labels a.dims (conL a b) (aD a b) i) hw (by omega) ca (by omega) (by omega)) ?_)
  simp only[go_sem,seval,reduceCtorEq]
  (refine cE (v9 (a:=List.map (aj b.labels b.dims) (conL a b)) (b:=ac (aD a b) i) (by omega) (by omega) (fun q _=>h.ib.dotb i q)) ?_ ?_ ?_;(focus (simp only[go_sem,seval,reduceCtorEq,tb,tx,hsb,hdl,hjd];done));(first | rfl | (focus (simp only[go_sem];done))))
  simp only[go_sem,seval,reduceCtorEq,ob]
  (refine zD (sX (t:=b) (x:=bH b.labels b.dims (conL a b) (aD a b) i) hw (by omega) cb (by omega) (by omega)) ?_)
  simp only[go_sem,seval,reduceCtorEq]
  (refine gr [17] false (E3 h.ring hw (jn h.fa _ _) (jn h.fb _ _) la1 lb1 (xs:=Z) (off:=0) (by omega) (by omega)) (zd rfl) ?_ ?_ ?_ ?_ (zd rfl) ?_;(focus (simp only[go_sem,seval,reduceCtorEq,hmE,hpE,hxl,hel,la1,lb1,List.take_take,Nat.min_self];done));(focus (simp only[go_sem,seval,reduceCtorEq];done));(focus (simp only[go_sem,seval,reduceCtorEq,hmE,hpE,hxl,hel,la1,lb1,List.take_take,Nat.min_self];done));(focus (simp only[go_sem,seval,reduceCtorEq];done)))
  simp only[go_sem,seval,reduceCtorEq,hmE,hpE]
  (refine cE (v9 (a:=List.map (aj (conK a b keep) (conD a b keep)) (conL a b)) (b:=ac (aD a b) i) (by omega) (by omega) (fun q _=>h.io.dotb i q)) ?_ ?_ ?_;(focus (simp only[go_sem,seval,reduceCtorEq,tO,tx,hso,hdl,hjd];done));(first | rfl | (focus (simp only[go_sem];done))))
  simp only[go_sem,seval,reduceCtorEq,oo]
  (refine GB [10,11,12] (BB (kk:=kk) (pp:=pp) (nn:=nn) (ca:=conK a b keep) (cb:=conD a b keep) (cc:=X) (l:=(conK a b keep).length) (d:=(conD a b keep).length) (x:=bH (conK a b keep) (conD a b keep) (conL a b) (aD a b) i) hw hwb (m:=(repE (az kk pp wd) n).length) (by omega) (by omega) (by omega)) (zd rfl) ?_ ?_ ?_ ?_ ?_ ?_;(simp only[go_sem,seval,reduceCtorEq]);(first | rfl | simp only[go_sem,seval,reduceCtorEq]);(simp only[go_sem,seval,reduceCtorEq,vwOk]);(simp only[go_sem,seval,reduceCtorEq,idsL,idsA,List.contains_cons,Nat.reduceBEq,Bool.or_true,Bool.true_or]);(first | rfl | simp only[go_sem,seval,reduceCtorEq]))
  simp only[go_sem,seval,reduceCtorEq]
  (refine gr [12] false (ER h.ring hw (xs:=X) (y:=E) (off:=bH (conK a b keep) (conD a b keep) (conL a b) (aD a b) i*wd) (jn htf _ _) hef hel (by omega) (by omega)) (zd rfl) ?_ ?_ ?_ ?_ (zd rfl) ?_;(focus (simp only[go_sem,seval,reduceCtorEq,hpl,hel,tE];done));(focus (simp only[go_sem,seval,reduceCtorEq];done));(focus (simp only[go_sem,seval,reduceCtorEq,hpl,hel,tE];done));(focus (simp only[go_sem,seval,reduceCtorEq];done)))
  simp only[go_sem,seval,reduceCtorEq]
  have htD:List.take (conL a b).length (aD a b)=aD a b:=zt (by omega)
  (refine gr [16] false (ue (ds:=aD a b) (n:=i) hdb (by omega) (by omega)) (zd rfl) ?_ ?_ ?_ ?_ (zd rfl) ?_;(focus (simp only[go_sem,seval,reduceCtorEq,hjd,htD,hdl,hdl1];done));(focus (simp only[go_sem,seval,reduceCtorEq];done));(focus (simp only[go_sem,seval,reduceCtorEq,hjd,htD,hdl,hdl1];done));(focus (simp only[go_sem,seval,reduceCtorEq];done)))
  by_cases hlast:i+1<N
  ·have hde:decide (((i:Int)+1) % aa (aD a b)≠0)=true:=by
    rw[hpN,Int.emod_eq_of_lt (by omega) (by omega)]
    exact decide_eq_true (by omega)
   simp(disch:=omega) only[go_sem,seval,reduceCtorEq,hde]
   (refine NextS.drop (mkB 141 2787593144624031034157137155550548859027968) (i+1) (by omega) (by omega) (h1:= ?_) (h2:= ?_)<;>first | (simp only[go_sem,seval,reduceCtorEq,nz,na,n1,hnx,hnX];first | done | rfl) | rfl | skip)
  ·have hN:N=i+1:=by omega
   have hde:decide (((i:Int)+1) % aa (aD a b)≠0)=false:=by
    have:(i:Int)+1=N:=by omega
    rw[hpN,this,Int.emod_self]
    rfl
   rw[hN,hnx]at hfin
   rw[hnx]at hnl
   simp(disch:=omega) only[go_sem,seval,reduceCtorEq,hde,H9 e h,hfin,e]
   refine FnEnd.wk Wk.nogA ?_
   (refine zE ?_ ?_<;>try simp only[go_sem,seval,reduceCtorEq])
   all_goals rw[hzl,hnl]
end Go.Proofs.YtjfmckhbmdjnpaaGreat
