/-
 Semirings as plain laws, part 2: the elements of every ring that is right are a commutative semiring. No condition.
-/
import Derived.Test.YtjfmckhbmdjnpaaGreatLift28
import Derived.Test.YtjfmckhbmdjnpaaGreatGenA
set_option linter.unusedSimpArgs false
set_option linter.unusedVariables false
namespace Go.Proofs.YtjfmckhbmdjnpaaGreat.Plain
structure El (r:Rg) (wd:Nat) (x:List Int):Prop where
 len:x.length=wd
 fit:fits r x
theorem eL {x y:List Int} {n:Nat} (lx:x.length=n) (ly:y.length=n) (h:∀ k,k<n→x.getD k 0=y.getD k 0):x=y:=by
 apply List.ext_getElem (lx.trans ly.symm)
 intro k h1 h2
 have:=h k (by omega)
 rwa [zq,zq,zg h1,zg h2]at this
section
variable {r : Rg} {wd : Nat} {x y z : List Int}
theorem El.at (h:El r wd x) {k:Nat} (hk:k<wd):0≤x.getD k 0∧x.getD k 0≤top r:=h.fit k (by rw[h.len];exact hk)
theorem El.one (hr:ae r=true) (hw:ah r=wd) (h:El r wd x) (hk:¬ (r.k=7∨r.k=8)):wd=1∧∃ a,x=[a]∧0≤a∧a≤top r:=by
 have h1:=nc hr hk
 have hwd:wd=1:=by omega
 subst hwd
 obtain⟨hl,hf⟩:=h
 match x,hl with
 | [a],_=>exact⟨rfl,a,rfl,hf 0 (by simp)⟩
def mul1 (r:Rg) (a b:Int):Int:=
 if r.k=1∨r.k=5 then min a b else if r.k=2 then (a*b).tmod r.p else if r.k=3 then min (a*b) r.p else if r.k=4 then min (a+b) r.p else andI a b
theorem cH (hk:¬ (r.k=7∨r.k=8)) (h6:r.k=1∨r.k=2∨r.k=3∨r.k=4∨r.k=5∨r.k=6) (a b:Int):mulE r [a] [b]=[mul1 r a b]:=by
 unfold mulE mul1
 simp only[List.getD_cons_zero]
 split
 ·rfl
 split
 ·rfl
 split
 ·rfl
 split
 ·rfl
 rw[if_pos (by omega)]
theorem x3 (a b:Int):addE r [a] [b]=[add1 r a b]:=rfl
theorem set6 (hr:ae r=true) (hk:r.k=6) {a:Int} (h:0≤a∧a≤top r):∃ m:Nat,a=m∧m<2 ^ r.n.toNat∧m<2 ^ 20∧m<1048577:=by
 have hn:1≤r.n∧r.n≤20:=by rcases aL hr with h | h | h | h | h | h | h | h<;>omega
 rw[top6 hk]at h
 obtain⟨m,rfl,h1,h2⟩:=yK (a:=a) (m:=r.n.toNat) (by omega) (by omega)
 have:2 ^ r.n.toNat≤2 ^ 20:=Nat.pow_le_pow_right (by omega) (by omega)
 exact⟨m,rfl,h1,by omega,h2⟩
theorem modP (hr:ae r=true) (hk:r.k=2∨r.k=7∨r.k=8):2≤r.p∧r.p≤1000003∧top r=r.p-1:=by
 have hp:2≤r.p∧r.p≤1000003:=by rcases aL hr with h | h | h | h | h | h | h | h<;>first | omega | exact bL h.2.1
 exact⟨hp.1,hp.2,topP hk⟩
theorem qN (hr:ae r=true) (hk:r.k=3∨r.k=4∨r.k=5):1≤r.p∧top r=r.p:=by
 refine⟨?_,topQ hk⟩
 rcases aL hr with h | h | h | h | h | h | h | h<;>omega
theorem kinds (hr:ae r=true):r.k=1∨r.k=2∨r.k=3∨r.k=4∨r.k=5∨r.k=6∨r.k=7∨r.k=8:=by
 rcases aL hr with h | h | h | h | h | h | h | h<;>omega
theorem pm {a b p:Int} (ha:0≤a) (hb:0≤b):(a+b).tmod p=(a+b) % p:=tm (by omega)
theorem AR (hr:ae r=true) {a b c:Int} (ha:0≤a∧a≤top r) (hb:0≤b∧b≤top r) (hc:0≤c∧c≤top r):add1 r (add1 r a b) c=add1 r a (add1 r b c):=by
 unfold add1
 by_cases h1:r.k=1∨r.k=5
 ·simp only[if_pos h1];omega
 by_cases h3:r.k=3
 ·simp only[if_neg h1,if_pos h3];have:=qN hr (.inl h3);omega
 by_cases h4:r.k=4
 ·simp only[if_neg h1,if_neg h3,if_pos h4];omega
 by_cases h6:r.k=6
 ·simp only[if_neg h1,if_neg h3,if_neg h4,if_pos h6]
  obtain⟨a,rfl,a1,a2,a3⟩:=set6 hr h6 ha
  obtain⟨b,rfl,b1,b2,b3⟩:=set6 hr h6 hb
  obtain⟨c,rfl,c1,c2,c3⟩:=set6 hr h6 hc
  rw[iT a2 b2,iT b2 c2,iT (Nat.or_lt_two_pow a2 b2) c2,iT a2 (Nat.or_lt_two_pow b2 c2),Nat.or_assoc]
 ·simp only[if_neg h1,if_neg h3,if_neg h4,if_neg h6]
  have hp:=modP hr (by have:=kinds hr;omega)
  have q1:=Int.emod_nonneg (a+b) (show r.p≠0 by omega)
  have q2:=Int.emod_nonneg (b+c) (show r.p≠0 by omega)
  rw[pm ha.1 hb.1,pm hb.1 hc.1,pm q1 hc.1,pm ha.1 q2,Int.emod_add_emod,Int.add_emod_emod,Int.add_assoc]
def pR (r:Rg):Int:=if r.k=4 then r.p else 0
theorem Dl (hr:ae r=true) {a:Int} (ha:0≤a∧a≤top r):add1 r (pR r) a=a:=by
 unfold add1 pR
 by_cases h1:r.k=1∨r.k=5
 ·rw[if_pos h1,if_neg (by omega)];omega
 by_cases h3:r.k=3
 ·rw[if_neg h1,if_pos h3,if_neg (by omega)];have:=qN hr (.inl h3);omega
 by_cases h4:r.k=4
 ·rw[if_neg h1,if_neg h3,if_pos h4,if_pos h4];have:=qN hr (.inr (.inl h4));omega
 by_cases h6:r.k=6
 ·rw[if_neg h1,if_neg h3,if_neg h4,if_pos h6,if_neg h4]
  obtain⟨a,rfl,a1,a2,a3⟩:=set6 hr h6 ha
  rw[show (0:Int)=((0:Nat):Int)from rfl,iT (by omega) a2,Nat.zero_or]
 ·rw[if_neg h1,if_neg h3,if_neg h4,if_neg h6,if_neg h4]
  have hp:=modP hr (by have:=kinds hr;omega)
  rw[Int.zero_add,tm ha.1,Int.emod_eq_of_lt ha.1 (by omega)]
theorem capm {a p c:Int} (ha:0≤a) (hc:0≤c) (hp:0≤p):min (min a p*c) p=min (a*c) p:=by
 by_cases h:a≤p
 ·rw[Int.min_eq_left h]
 ·rw[Int.min_eq_right (show p≤a by omega)]
  by_cases e:c=0
  ·subst e;simp
  ·have h1:p*1≤p*c:=Int.mul_le_mul_of_nonneg_left (by omega) hp
   have h2:p*c≤a*c:=Int.mul_le_mul_of_nonneg_right (by omega) hc
   omega
theorem Cr (a b:Int):mul1 r a b=mul1 r b a:=by
 unfold mul1
 rw[Int.min_comm a b,Int.mul_comm a b,Int.add_comm a b,show andI a b=andI b a by unfold andI;rw[BitVec.and_comm]]
theorem Ag (hr:ae r=true) (h78:¬ (r.k=7∨r.k=8)) {a b c:Int} (ha:0≤a∧a≤top r) (hb:0≤b∧b≤top r) (hc:0≤c∧c≤top r):mul1 r (mul1 r a b) c=mul1 r a (mul1 r b c):=by
 have hab:=Int.mul_nonneg ha.1 hb.1
 have hbc:=Int.mul_nonneg hb.1 hc.1
 unfold mul1
 by_cases h1:r.k=1∨r.k=5
 ·simp only[if_pos h1];omega
 by_cases h2:r.k=2
 ·simp only[if_neg h1,if_pos h2]
  have hp:=modP hr (.inl h2)
  have q1:=Int.emod_nonneg (a*b) (show r.p≠0 by omega)
  have q2:=Int.emod_nonneg (b*c) (show r.p≠0 by omega)
  rw[tm hab,tm hbc,tm (Int.mul_nonneg q1 hc.1),tm (Int.mul_nonneg ha.1 q2),Int.mul_emod,Int.emod_emod_of_dvd _ (Int.dvd_refl _), ← Int.mul_emod,Int.mul_emod a,Int.emod_emod_of_dvd _ (Int.dvd_refl _), ← Int.mul_emod,Int.mul_assoc]
 by_cases h3:r.k=3
 ·simp only[if_neg h1,if_neg h2,if_pos h3]
  have hp:=qN hr (.inl h3)
  rw[capm hab hc.1 (by omega),Int.mul_comm a (min (b*c) r.p),capm hbc ha.1 (by omega),Int.mul_comm (b*c) a,Int.mul_assoc]
 by_cases h4:r.k=4
 ·simp only[if_neg h1,if_neg h2,if_neg h3,if_pos h4];omega
 ·have h6:r.k=6:=by have:=kinds hr;omega
  simp only[if_neg h1,if_neg h2,if_neg h3,if_neg h4]
  obtain⟨a,rfl,a1,a2,a3⟩:=set6 hr h6 ha
  obtain⟨b,rfl,b1,b2,b3⟩:=set6 hr h6 hb
  obtain⟨c,rfl,c1,c2,c3⟩:=set6 hr h6 hc
  have e1:a&&& b≤a:=Nat.and_le_left
  have e2:b&&& c≤b:=Nat.and_le_left
  rw[dM a3 b3,dM b3 c3,dM (by omega) c3,dM a3 (by omega),Nat.and_assoc]
def one1 (r:Rg):Int:=if r.k=5∨r.k=6 then top r else if r.k=4 then 0 else 1
theorem Es (hr:ae r=true) (h78:¬ (r.k=7∨r.k=8)) {a:Int} (ha:0≤a∧a≤top r):mul1 r (one1 r) a=a:=by
 have hk:=kinds hr
 unfold mul1 one1
 by_cases h1:r.k=1
 ·have:top r=1:=by unfold top;rw[if_pos h1]
  rw[if_pos (.inl h1),if_neg (by omega),if_neg (by omega)];omega
 by_cases h5:r.k=5
 ·rw[if_pos (.inr h5),if_pos (.inl h5)];omega
 by_cases h2:r.k=2
 ·have hp:=modP hr (.inl h2)
  rw[if_neg (by omega),if_pos h2,if_neg (by omega),if_neg (by omega),Int.one_mul,tm ha.1,Int.emod_eq_of_lt ha.1 (by omega)]
 by_cases h3:r.k=3
 ·have hp:=qN hr (.inl h3)
  rw[if_neg (by omega),if_neg (by omega),if_pos h3,if_neg (by omega),if_neg (by omega)];omega
 by_cases h4:r.k=4
 ·have hp:=qN hr (.inr (.inl h4))
  rw[if_neg (by omega),if_neg (by omega),if_neg (by omega),if_pos h4,if_neg (by omega),if_pos h4];omega
 ·have h6:r.k=6:=by omega
  rw[if_neg (by omega),if_neg (by omega),if_neg (by omega),if_neg (by omega),if_pos (by omega)]
  have ht:=dE hr
  obtain⟨a,rfl,a1,a2,a3⟩:=set6 hr h6 ha
  have e:top r=((2 ^ r.n.toNat-1:Nat):Int):=by
   have c:((2 ^ r.n.toNat:Nat):Int)=(2:Int) ^ r.n.toNat:=by simp
   have:1≤2 ^ r.n.toNat:=Nat.one_le_two_pow
   rw[top6 h6];omega
  rw[e,dM (by omega) a3,Nat.and_comm,Nat.and_two_pow_sub_one_of_lt_two_pow a1]
theorem Cq (hr:ae r=true) (h78:¬ (r.k=7∨r.k=8)) {a:Int} (ha:0≤a∧a≤top r):mul1 r (pR r) a=pR r:=by
 have hk:=kinds hr
 unfold mul1 pR
 by_cases h1:r.k=1∨r.k=5
 ·rw[if_pos h1,if_neg (by omega)];omega
 by_cases h2:r.k=2
 ·rw[if_neg h1,if_pos h2,if_neg (by omega),Int.zero_mul,Int.zero_tmod]
 by_cases h3:r.k=3
 ·have hp:=qN hr (.inl h3)
  rw[if_neg h1,if_neg h2,if_pos h3,if_neg (by omega),Int.zero_mul];omega
 by_cases h4:r.k=4
 ·have hp:=qN hr (.inr (.inl h4))
  rw[if_neg h1,if_neg h2,if_neg h3,if_pos h4,if_pos h4];omega
 ·have h6:r.k=6:=by omega
  rw[if_neg h1,if_neg h2,if_neg h3,if_neg h4,if_neg h4]
  obtain⟨a,rfl,a1,a2,a3⟩:=set6 hr h6 ha
  rw[show (0:Int)=((0:Nat):Int)from rfl,dM (by omega) a3,Nat.zero_and]
theorem Et (hr:ae r=true) (h78:¬ (r.k=7∨r.k=8)) {a b c:Int} (ha:0≤a∧a≤top r) (hb:0≤b∧b≤top r) (hc:0≤c∧c≤top r):mul1 r a (add1 r b c)=add1 r (mul1 r a b) (mul1 r a c):=by
 have hk:=kinds hr
 have hab:=Int.mul_nonneg ha.1 hb.1
 have hac:=Int.mul_nonneg ha.1 hc.1
 unfold mul1 add1
 by_cases h1:r.k=1∨r.k=5
 ·simp only[if_pos h1];omega
 by_cases h3:r.k=3
 ·have hp:=qN hr (.inl h3)
  have h2:¬ r.k=2:=by omega
  simp only[if_neg h1,if_neg h2,if_pos h3]
  rw[Int.mul_comm a (min (b+c) r.p),capm (by omega) ha.1 (by omega),Int.add_mul,Int.mul_comm b,Int.mul_comm c]
  omega
 by_cases h4:r.k=4
 ·have h2:¬ r.k=2:=by omega
  simp only[if_neg h1,if_neg h2,if_neg h3,if_pos h4];omega
 by_cases h6:r.k=6
 ·have h2:¬ r.k=2:=by omega
  simp only[if_neg h1,if_neg h2,if_neg h3,if_neg h4,if_pos h6]
  obtain⟨a,rfl,a1,a2,a3⟩:=set6 hr h6 ha
  obtain⟨b,rfl,b1,b2,b3⟩:=set6 hr h6 hb
  obtain⟨c,rfl,c1,c2,c3⟩:=set6 hr h6 hc
  have e1:a&&& b≤a:=Nat.and_le_left
  have e2:a&&& c≤a:=Nat.and_le_left
  have e3:=Nat.or_lt_two_pow b2 c2
  rw[dM a3 b3,dM a3 c3,iT b2 c2,iT (by omega) (by omega),dM a3 (by omega),Nat.and_or_distrib_left]
 ·have h2:r.k=2:=by omega
  simp only[if_neg h1,if_neg h3,if_neg h4,if_neg h6,if_pos h2]
  have hp:=modP hr (.inl h2)
  have q0:=Int.emod_nonneg (b+c) (show r.p≠0 by omega)
  have q1:=Int.emod_nonneg (a*b) (show r.p≠0 by omega)
  have q2:=Int.emod_nonneg (a*c) (show r.p≠0 by omega)
  rw[tm hab,tm hac,pm hb.1 hc.1,tm (Int.mul_nonneg ha.1 q0),pm q1 q2,Int.mul_emod,Int.emod_emod_of_dvd _ (Int.dvd_refl _), ← Int.mul_emod,Int.mul_add, ← Int.add_emod]
end
end Go.Proofs.YtjfmckhbmdjnpaaGreat.Plain
namespace Go.Proofs.YtjfmckhbmdjnpaaGreat.Plain
section
variable {r : Rg} {wd : Nat} {x y z : List Int}
theorem fh (lx:x.length=wd) (ly:y.length=wd) {k:Nat} (hk:k<wd):(addE r x y).getD k 0=add1 r (x.getD k 0) (y.getD k 0):=by
 simp [addE,zq,List.getElem?_zipWith,show k<x.length by omega,show k<y.length by omega]
theorem El.add (hr:ae r=true) (hx:El r wd x) (hy:El r wd y):El r wd (addE r x y):=⟨i6 hx.len hy.len,s6 hr hx.fit hy.fit⟩
theorem El.mul (hr:ae r=true) (hw:ah r=wd) (hx:El r wd x) (hy:El r wd y):El r wd (mulE r x y):=
 ⟨(eZ hr hw hx.fit hy.fit hx.len hy.len).1,re hr hw hx.fit hy.fit hx.len hy.len⟩
theorem El.zero (hr:ae r=true):El r wd (aA r.k r.p wd):=⟨bI ..,gC hr⟩
theorem wd4 (hw:ah r=wd) (h:k8 r=true):wd=4:=by
 have h8:r.k=8:=by simpa [k8]using h
 have:ah r=4:=by unfold ah;rw[if_neg (by omega),if_pos h8]
 omega
theorem l9 (hr:ae r=true) (hw:ah r=wd) {k:Nat} (hk:k<wd):(aA r.k r.p wd).getD k 0=pR r:=by
 unfold aA pR
 by_cases h4:r.k=4
 ·have h1:=nc hr (by omega)
  obtain rfl:wd=1:=by omega
  obtain rfl:k=0:=by omega
  rw[if_pos h4,if_pos h4];rfl
 ·rw[if_neg h4,if_neg h4]
  simp [zq,hk]
theorem El.unit (hr:ae r=true) (hw:ah r=wd):El r wd (oneE r wd):=by
 have ht:=dE hr
 have hwb:=ci hr
 have hk:=kinds hr
 refine⟨fE ..,fun k hk'=> ?_⟩
 rw[fE]at hk'
 unfold oneE
 rw[qA (by simp;omega)]
 split
 ·split
  ·omega
  ·split
   ·omega
   ·have:=ht.1;omega
 ·have:(List.replicate wd (0:Int)).getD k 0=0:=by simp [zq,hk']
  rw[this];omega
theorem AP (hr:ae r=true) (hx:El r wd x) (hy:El r wd y) (hz:El r wd z):addE r (addE r x y) z=addE r x (addE r y z):=by
 have h1:=hx.add hr hy
 have h2:=hy.add hr hz
 refine eL (h1.add hr hz).len (hx.add hr h2).len fun k hk=> ?_
 rw[fh h1.len hz.len hk,fh hx.len hy.len hk,fh hx.len h2.len hk,fh hy.len hz.len hk]
 exact AR hr (hx.at hk) (hy.at hk) (hz.at hk)
theorem BO (hr:ae r=true) (hw:ah r=wd) (hx:El r wd x):addE r (aA r.k r.p wd) x=x:=by
 have h0:El r wd (aA r.k r.p wd):=El.zero hr
 refine eL (h0.add hr hx).len hx.len fun k hk=> ?_
 rw[fh h0.len hx.len hk,l9 hr hw hk]
 exact Dl hr (hx.at hk)
theorem dg (hr:ae r=true) (hw:ah r=wd) (h78:r.k=7∨r.k=8) (hx:El r wd x) (hy:El r wd y) {k:Nat} (hk:k<wd):
  (mulE r x y).getD k 0=cvF (k8 r) wd (fun i=>x.getD i 0) (fun j=>y.getD j 0) k % r.p:=by
 have e:mulE r x y=cR r x y (List.replicate x.length 0) x.length:=by
  unfold mulE
  rw[if_neg (by omega),if_neg (by omega),if_neg (by omega),if_neg (by omega),if_neg (by omega)]
 obtain⟨lx,hp⟩:=br hr hx.fit (by omega)
 obtain⟨ly,_⟩:=br hr hy.fit (by omega)
 rw[e,hx.len,wi (w:=wd) hp (wd4 hw) (mP (by omega) wd) (by simp) lx ly hy.len hk wd (Nat.le_refl _)]
 have:(List.replicate wd (0:Int)).getD k 0=0:=by simp [zq,hk]
 rw[this,Int.zero_add];rfl
theorem wd6 (hr:ae r=true) (hw:ah r=wd):1≤wd∧wd≤6:=by have:=ci hr;omega
theorem mS (hr:ae r=true) (h:¬ (r.k=7∨r.k=8)):r.k=1∨r.k=2∨r.k=3∨r.k=4∨r.k=5∨r.k=6:=by have:=kinds hr;omega
theorem Cn (hr:ae r=true) (hw:ah r=wd) (hx:El r wd x) (hy:El r wd y):mulE r x y=mulE r y x:=by
 by_cases h:r.k=7∨r.k=8
 ·refine eL (hx.mul hr hw hy).len (hy.mul hr hw hx).len fun k hk=> ?_
  rw[dg hr hw h hx hy hk,dg hr hw h hy hx hk,Fm]
 ·obtain⟨_,a,rfl,ha⟩:=hx.one hr hw h
  obtain⟨_,b,rfl,hb⟩:=hy.one hr hw h
  rw[cH h (mS hr h),cH h (mS hr h),Cr]
theorem Af (hr:ae r=true) (hw:ah r=wd) (hx:El r wd x) (hy:El r wd y) (hz:El r wd z):mulE r (mulE r x y) z=mulE r x (mulE r y z):=by
 have h1:=hx.mul hr hw hy
 have h2:=hy.mul hr hw hz
 by_cases h:r.k=7∨r.k=8
 ·refine eL (h1.mul hr hw hz).len (hx.mul hr hw h2).len fun k hk=> ?_
  rw[dg hr hw h h1 hz hk,dg hr hw h hx h2 hk]
  rw[xN (x':=cvF (k8 r) wd (fun i=>x.getD i 0) (fun j=>y.getD j 0)) (y':=fun j=>z.getD j 0) (fun i hi=>by rw[dg hr hw h hx hy hi,Int.emod_emod_of_dvd _ (Int.dvd_refl _)]) (fun _ _=>rfl)]
  rw[xN (x:=fun i=>x.getD i 0) (x':=fun i=>x.getD i 0) (y':=cvF (k8 r) wd (fun i=>y.getD i 0) (fun j=>z.getD j 0)) (fun _ _=>rfl) (fun i hi=>by rw[dg hr hw h hy hz hi,Int.emod_emod_of_dvd _ (Int.dvd_refl _)])]
  rw[D8 (wd6 hr hw).2 (wd4 hw) _ _ _ hk]
 ·obtain⟨_,a,rfl,ha⟩:=hx.one hr hw h
  obtain⟨_,b,rfl,hb⟩:=hy.one hr hw h
  obtain⟨_,c,rfl,hc⟩:=hz.one hr hw h
  rw[cH h (mS hr h),cH h (mS hr h),cH h (mS hr h),cH h (mS hr h),Ag hr h ha hb hc]
theorem Ch (hr:ae r=true) (hw:ah r=wd) (h:r.k=7∨r.k=8) {k:Nat} (hk:k<wd):(oneE r wd).getD k 0=if k=0 then 1 else 0:=by
 unfold oneE
 rw[qA (by simp;omega),if_neg (show ¬ (r.k=5∨r.k=6)by omega),if_neg (show ¬ r.k=4 by omega)]
 have:(List.replicate wd (0:Int)).getD k 0=0:=by simp [zq,hk]
 rw[this]
theorem Ej (hr:ae r=true) (hw:ah r=wd) (hx:El r wd x):mulE r (oneE r wd) x=x:=by
 have h1:El r wd (oneE r wd):=El.unit hr hw
 by_cases h:r.k=7∨r.k=8
 ·refine eL (h1.mul hr hw hx).len hx.len fun k hk=> ?_
  obtain⟨lx,hp⟩:=br hr hx.fit (by omega)
  have hxk:=lx.at (by omega) k
  rw[dg hr hw h h1 hx hk,wP (x':=fun i=>if i=0 then 1 else 0) (fun i hi=>Ch hr hw h hi) (fun _ _=>rfl),Hk (wd4 hw) _ hk,Int.emod_eq_of_lt hxk.1 hxk.2]
 ·obtain⟨e,a,rfl,ha⟩:=hx.one hr hw h
  subst e
  have:oneE r 1=[one1 r]:=rfl
  rw[this,cH h (mS hr h),Es hr h ha]
theorem BN (hr:ae r=true) (hw:ah r=wd) (hx:El r wd x):mulE r (aA r.k r.p wd) x=aA r.k r.p wd:=by
 have h0:El r wd (aA r.k r.p wd):=El.zero hr
 by_cases h:r.k=7∨r.k=8
 ·refine eL (h0.mul hr hw hx).len h0.len fun k hk=> ?_
  have hz1:pR r=0:=if_neg (by omega)
  rw[dg hr hw h h0 hx hk,wP (x':=fun _=>0) (fun i hi=>(l9 hr hw hi).trans hz1) (fun _ _=>rfl),Fl,l9 hr hw hk,hz1]
  rfl
 ·obtain⟨e,a,rfl,ha⟩:=hx.one hr hw h
  subst e
  have:aA r.k r.p 1=[pR r]:=eL (bI ..) rfl fun k hk=>by
   obtain rfl:k=0:=by omega
   rw[l9 hr hw hk];rfl
  rw[this,cH h (mS hr h),Cq hr h ha]
theorem Co (hr:ae r=true) (hw:ah r=wd) (hx:El r wd x) (hy:El r wd y) (hz:El r wd z):mulE r x (addE r y z)=addE r (mulE r x y) (mulE r x z):=by
 have h1:=hx.mul hr hw hy
 have h2:=hx.mul hr hw hz
 have h3:=hy.add hr hz
 by_cases h:r.k=7∨r.k=8
 ·refine eL (hx.mul hr hw h3).len (h1.add hr h2).len fun k hk=> ?_
  obtain⟨ly,hp⟩:=br hr hy.fit (by omega)
  obtain⟨lz,_⟩:=br hr hz.fit (by omega)
  have ha:∀ a b:Int,0≤a→0≤b→add1 r a b=(a+b) % r.p:=fun a b h1 h2=>by
   unfold add1
   rw[if_neg (by omega),if_neg (by omega),if_neg (by omega),if_neg (by omega),pm h1 h2]
  have m1:=Int.emod_nonneg (cvF (k8 r) wd (fun i=>x.getD i 0) (fun j=>y.getD j 0) k) (show r.p≠0 by omega)
  have m2:=Int.emod_nonneg (cvF (k8 r) wd (fun i=>x.getD i 0) (fun j=>z.getD j 0) k) (show r.p≠0 by omega)
  rw[dg hr hw h hx h3 hk,fh h1.len h2.len hk,dg hr hw h hx hy hk,dg hr hw h hx hz hk,ha _ _ m1 m2, ← Int.add_emod, ← Hl]
  exact xN (fun _ _=>rfl) (fun j hj=>by rw[fh hy.len hz.len hj,ha _ _ (ly.at (by omega) j).1 (lz.at (by omega) j).1,Int.emod_emod_of_dvd _ (Int.dvd_refl _)]) k
 ·obtain⟨_,a,rfl,ha⟩:=hx.one hr hw h
  obtain⟨_,b,rfl,hb⟩:=hy.one hr hw h
  obtain⟨_,c,rfl,hc⟩:=hz.one hr hw h
  rw[x3,cH h (mS hr h),cH h (mS hr h),cH h (mS hr h),x3,Et hr h ha hb hc]
end
end Go.Proofs.YtjfmckhbmdjnpaaGreat.Plain
namespace Go.Proofs.YtjfmckhbmdjnpaaGreat.Sem
open Plain
def Elt (r:Rg) (wd:Nat):Type:={x:List Int // El r wd x}
theorem Elt.ext {r:Rg} {wd:Nat} {x y:Elt r wd} (h:x.val=y.val):x=y:=Subtype.ext h
def aB {r:Rg} {wd:Nat} (hr:ae r=true) (hw:ah r=wd):SR (Elt r wd) where
 add x y:=⟨addE r x.val y.val,x.property.add hr y.property⟩
 mul x y:=⟨mulE r x.val y.val,x.property.mul hr hw y.property⟩
 zero:=⟨aA r.k r.p wd,El.zero hr⟩
 one:=⟨oneE r wd,El.unit hr hw⟩
 add_assoc x y z:=Elt.ext (AP hr x.property y.property z.property)
 add_comm x y:=Elt.ext (Dk r x.val y.val)
 zero_add x:=Elt.ext (BO hr hw x.property)
 mul_assoc x y z:=Elt.ext (Af hr hw x.property y.property z.property)
 mul_comm x y:=Elt.ext (Cn hr hw x.property y.property)
 one_mul x:=Elt.ext (Ej hr hw x.property)
 zero_mul x:=Elt.ext (BN hr hw x.property)
 mul_add x y z:=Elt.ext (Co hr hw x.property y.property z.property)
theorem D9 {x ys:List Int} {wd n o k:Nat} (hx:x.length=n*wd) (hy:ys.length=wd) (ho:o<n) (hk:k<n):cutE (putE x (o*wd) ys) wd k=if k=o then ys else cutE x wd k:=by
 have h1:(o+1)*wd≤n*wd:=Nat.mul_le_mul_right _ ho
 have h2:(k+1)*wd≤n*wd:=Nat.mul_le_mul_right _ hk
 rw[Nat.succ_mul]at h1 h2
 apply List.ext_getElem?
 intro i
 unfold cutE
 by_cases hi:i<wd
 ·rw[List.getElem?_take,if_pos hi,List.getElem?_drop,kz (by omega)]
  by_cases e:k=o
  ·subst e
   rw[if_pos (by omega),if_pos rfl,show k*wd+i-k*wd=i by omega]
  ·have:¬ (o*wd≤k*wd+i∧k*wd+i<o*wd+ys.length):=by
    rcases Nat.lt_or_gt_of_ne e with h | h
    ·have:=Nat.mul_le_mul_right wd (show k+1≤o from h)
     rw[Nat.succ_mul]at this
     omega
    ·have:=Nat.mul_le_mul_right wd (show o+1≤k from h)
     rw[Nat.succ_mul]at this
     omega
   rw[if_neg this,if_neg e,List.getElem?_take,if_pos hi,List.getElem?_drop]
 ·rw[List.getElem?_take,if_neg hi]
  split
  ·rw[List.getElem?_eq_none (by omega)]
  ·rw[List.getElem?_take,if_neg hi]
theorem rS {z:List Int} {wd:Nat} (hz:z.length=wd):∀ {n k:Nat},k<n→cutE (repE z n) wd k=z
 | 0,k,h=>by omega
 | n+1,k,h=>by
  have hl:=dJ z n
  rw[hz]at hl
  unfold cutE
  by_cases e:k=n
  ·subst e
   rw[repE,List.drop_append_of_le_length (by omega),List.drop_of_length_le (by omega),List.nil_append,zt (by omega)]
  ·have hk:k<n:=by omega
   have h2:(k+1)*wd≤n*wd:=Nat.mul_le_mul_right _ hk
   rw[Nat.succ_mul]at h2
   have ih:=rS hz hk
   unfold cutE at ih
   rw[repE,List.drop_append_of_le_length (by omega),List.take_append_of_le_length (by rw[List.length_drop];omega)]
   exact ih
section
variable {r : Rg} {wd : Nat} (hr : ae r = true) (hw : ah r = wd)
theorem xW {n m:Nat} {o:Nat→Nat} {e:Nat→Elt r wd} {T:Nat→List Int} (hl:(T 0).length=n*wd) (h0:∀ k,k<n→cutE (T 0) wd k=aA r.k r.p wd)
  (hT:∀ i,i<m→T (i+1)=putE (T i) (o i*wd) (addE r (cutE (T i) wd (o i)) (e i).val)) (ho:∀ i,i<m→o i<n):
  ∀ i,i≤m→(T i).length=n*wd∧∀ k,k<n→cutE (T i) wd k=(sm (aB hr hw) (fun j=>if o j=k then e j else (aB hr hw).zero) i).val
 | 0,_=>⟨hl,fun k hk=>h0 k hk⟩
 | i+1,hi=>by
  obtain⟨h1,h2⟩:=xW hl h0 hT ho i (by omega)
  have hoi:=ho i (by omega)
  have h3:=h2 (o i) hoi
  have hE:(addE r (cutE (T i) wd (o i)) (e i).val).length=wd:=by
   rw[h3];exact(El.add hr (Subtype.property _) (e i).property).len
  have h4:(o i+1)*wd≤n*wd:=Nat.mul_le_mul_right _ hoi
  rw[Nat.succ_mul]at h4
  rw[hT i (by omega)]
  refine⟨by rw[bQ (by omega)];exact h1,fun k hk=> ?_⟩
  rw[D9 h1 hE hoi hk,sm]
  by_cases ek:o i=k
  ·subst ek
   rw[if_pos rfl,if_pos rfl,h3];rfl
  ·rw[if_neg (Ne.symm ek),if_neg ek,h2 k hk]
   rw[(aB hr hw).add_zero]
end
variable (dim : Int → Nat)
def bD (L:List Int):List Int:=L.map fun x=>(dim x:Int)
theorem eH:∀ L,aa (bD dim L)=pN dim L
 | []=>rfl
 | x :: L=>by
  rw[bD,List.map_cons,bc,pN]
  have:=eH L
  rw[bD]at this
  rw[this]
  push_cast
  rfl
theorem v8:∀ (L:List Int),L.Nodup→∀ (a:Asg) (n:Nat),ac (bD dim L) n=L.map fun x=>(asgN dim a L n x:Int)
 | [],_,_,_=>rfl
 | x :: L,hn,a,n=>by
  obtain⟨hx,hn2⟩:=List.nodup_cons.1 hn
  have e:bD dim (x :: L)=(dim x:Int) :: bD dim L:=rfl
  rw[e,cy,eH,List.map_cons,asgN,qU dim L _ n x hx,lf,v8 L hn2 (up a x (n / pN dim L % dim x))]
  push_cast
  rfl
theorem vR {l:Int} {u:Int} {g:Int→Int}:∀ {L:List Int},L.Nodup→l∈L→g l=0→sumI (L.map fun x=>if x=l then u else g x)=u+sumI (L.map g)
 | [],_,h,_=>by cases h
 | x :: L,hn,h,h0=>by
  obtain⟨hx,hn2⟩:=List.nodup_cons.1 hn
  rw[List.map_cons,List.map_cons,eU,eU]
  by_cases e:x=l
  ·subst e
   rw[if_pos rfl,h0,List.map_congr_left (g:=g) fun y hy=>if_neg fun e=>hx (by rw[← e];exact hy)]
   omega
  ·have hl:l∈L:=(List.mem_cons.1 h).elim (fun e'=>absurd e'.symm e) id
   rw[if_neg e,vR hn2 hl h0]
   omega
theorem tM {L:List Int} (hL:L.Nodup) (b:Asg):∀ (ls:List Int),ls.Nodup→(∀ x∈ls,x∈L)→sumI (L.map fun x=>ai ls (bD dim ls) x*(b x:Int))=offR dim ls b
 | [],_,_=>by
  have:∀ M:List Int,sumI (M.map fun x=>ai [] (bD dim []) x*(b x:Int))=0:=by
   intro M
   induction M with
   | nil=>rfl
   | cons x M ih=>rw[List.map_cons,eU,ih];simp [ai]
  rw[this];rfl
 | l :: ls,hn,hs=>by
  obtain⟨hx,hn2⟩:=List.nodup_cons.1 hn
  have ih:=tM hL b ls hn2 fun x hx=>hs x (List.mem_cons_of_mem _ hx)
  have e:(fun x=>ai (l :: ls) (bD dim (l :: ls)) x*(b x:Int))=fun x=>if x=l then aa (bD dim ls)*(b l:Int) else ai ls (bD dim ls) x*(b x:Int):=by
   funext x
   have e1:bD dim (l :: ls)=(dim l:Int) :: bD dim ls:=rfl
   rw[e1,ai]
   by_cases h:x=l
   ·rw[if_pos h,if_pos h,h]
   ·rw[if_neg h,if_neg h]
  rw[e,vR hL (hs l List.mem_cons_self) (by rw[po ls _ l hx,Int.zero_mul]),ih,eH,offR]
  push_cast
  rw[Int.mul_comm]
theorem f9 {L ls:List Int} (hL:L.Nodup) (hls:ls.Nodup) (hs:∀ x∈ls,x∈L) (a:Asg) (i:Nat):bw ls (bD dim ls) L (bD dim L) i=offR dim ls (asgN dim a L i):=by
 unfold bw
 rw[v8 dim L hL a i,uW,tM dim hL _ ls hls hs]
 rfl
end Go.Proofs.YtjfmckhbmdjnpaaGreat.Sem
namespace Go.Proofs.YtjfmckhbmdjnpaaGreat.Sem
open Plain
structure TV (r:Rg) (wd:Nat) (dim:Int→Nat) (t:Ten):Prop where
 nd:t.labels.Nodup
 dm:t.dims=bD dim t.labels
 dp:∀ x∈t.labels,1≤dim x
 len:t.data.length=pN dim t.labels*wd
 fit:fits r t.data
section
variable {r : Rg} {wd : Nat} (hr : ae r = true) (hw : ah r = wd) (dim : Int → Nat)
def Elt.mk {r:Rg} {wd:Nat} (x:List Int) (h:El r wd x):Elt r wd:=⟨x,h⟩
open Classical in
noncomputable def elO (xs:List Int) (k:Nat):Elt r wd:=if h:El r wd (cutE xs wd k) then Elt.mk _ h else (aB hr hw).zero
noncomputable def elT (dim:Int→Nat) (t:Ten) (a:Asg):Elt r wd:=elO hr hw t.data (offR dim t.labels a)
variable {dim}
theorem TV.el {t:Ten} (h:TV r wd dim t) {k:Nat} (hk:k<pN dim t.labels):El r wd (cutE t.data wd k):=⟨nj h.len hk,eh h.fit wd k⟩
theorem lK {t:Ten} (h:TV r wd dim t) {a:Asg} (ha:∀ x∈t.labels,a x<dim x):(elT hr hw dim t a).val=cutE t.data wd (offR dim t.labels a):=by
 unfold elT elO
 rw[dif_pos (h.el (fp dim ha))]
 rfl
theorem wH {t:Ten} {a b:Asg} (h:∀ x∈t.labels,a x=b x):elT hr hw dim t a=elT hr hw dim t b:=by
 unfold elT
 rw[gN dim h]
theorem Hd {t:Ten} {L:List Int} (h:∀ x∈L,x∉t.labels):Ind L (elT hr hw dim t):=fun x hx a v=>
 wH hr hw fun y hy=>AT fun e=>h x hx (by rw[← e];exact hy)
theorem xJ {t:Ten} (h:TV r wd dim t) {a:Asg} (ha:∀ x∈t.labels,a x<dim x) {e:Elt r wd} (he:cutE t.data wd (offR dim t.labels a)=e.val):elT hr hw dim t a=e:=
 Elt.ext ((lK hr hw h ha).trans he)
theorem TV.dimEq {t:Ten} (h:TV r wd dim t) {x:Int} (hx:x∈t.labels):ar t x=dim x:=by
 obtain⟨k,hk,rfl⟩:=List.getElem_of_mem hx
 unfold ar
 rw[gK hk (gU h.nd hk),h.dm]
 simp [bD,zq,hk]
theorem rI (hr:ae r=true) (hw:ah r=wd) {x:List Int} {n:Nat} (hl:x.length=n*wd) (h:∀ k,k<n→El r wd (cutE x wd k)):fits r x:=fun i hi=>by
 have hwd:=wd6 hr hw
 have hq:i / wd<n:=Nat.div_lt_of_lt_mul (by rw[Nat.mul_comm];omega)
 have hm:=Nat.mod_lt i (show 0<wd by omega)
 have hd:=Nat.div_add_mod i wd
 rw[Nat.mul_comm]at hd
 have h1:=(h _ hq).at hm
 have e:(cutE x wd (i / wd)).getD (i % wd) 0=x.getD i 0:=by
  unfold cutE
  rw[zq,zq,List.getElem?_take,if_pos hm,List.getElem?_drop,hd]
 rwa [e]at h1
section
variable {A B : Ten} (hA : TV r wd dim A) (hB : TV r wd dim B)
include hA hB
theorem xP:(conL A B).Nodup:=uH hA.nd hB.nd
theorem Ho:∀ x∈conL A B,1≤dim x:=fun x hx=>(ba.1 hx).elim (hA.dp x) (hB.dp x)
theorem pA:aE A B=bD dim (conL A B):=by
 unfold aE bD
 refine List.map_congr_left fun x hx=> ?_
 by_cases h:x∈A.labels
 ·rw[if_pos (az.2 h),hA.dimEq h]
 ·have hb:x∈B.labels:=(ba.1 hx).elim (fun h'=>absurd h' h) id
  rw[if_neg (by rw[az];exact h),hB.dimEq hb]
theorem wT (keep:List Int):conD A B keep=bD dim (conK A B keep):=by
 unfold conD
 refine List.map_congr_left fun x hx=> ?_
 obtain⟨k,hk,rfl⟩:=List.getElem_of_mem (List.mem_filter.1 hx).1
 rw[AM (xP hA hB) hk,pA hA hB]
 simp [bD,zq,hk]
end
def conX (A B:Ten) (keep:List Int):List Int:=(conL A B).filter fun x=> !has keep x
theorem Db {A B:Ten} {keep:List Int}:(conL A B).Perm (conX A B keep++conK A B keep):=
 ((List.filter_append_perm (has keep) (conL A B)).symm).trans List.perm_append_comm
theorem lm (L:List Int):bC (bD dim L)=pN dim L:=by
 unfold bC
 rw[eH];rfl
theorem xO {A B:Ten} (hA:TV r wd dim A) (hB:TV r wd dim B) (keep:List Int):TV r wd dim (conR r wd A B keep)∧
  ∀ a:Asg,(∀ x∈conK A B keep,a x<dim x)→elT hr hw dim (conR r wd A B keep) a=sumL (aB hr hw) dim (conX A B keep) (fun b=>(aB hr hw).mul (elT hr hw dim A b) (elT hr hw dim B b)) a:=by
 have hLn:=xP hA hB
 have hLd:=Ho hA hB
 have hjd:=pA hA hB
 have hkd:=wT hA hB keep
 have hKn:(conK A B keep).Nodup:=hLn.filter _
 have hKs:∀ x∈conK A B keep,x∈conL A B:=fun x hx=>(List.mem_filter.1 hx).1
 have hKd:∀ x∈conK A B keep,1≤dim x:=fun x hx=>hLd x (hKs x hx)
 have hasg:∀ (a:Asg) (i:Nat) x,x∈conL A B→asgN dim a (conL A B) i x<dim x:=fun a i x hx=>jf dim _ hLd a i x hx
 have hz:(aA r.k r.p wd).length=wd:=bI ..
 have hacc:∀ a:Asg,∀ i,i≤pN dim (conL A B)→(eN r wd A B keep (repE (aA r.k r.p wd) (pN dim (conK A B keep))) i).length=pN dim (conK A B keep)*wd∧
   ∀ k,k<pN dim (conK A B keep)→cutE (eN r wd A B keep (repE (aA r.k r.p wd) (pN dim (conK A B keep))) i) wd k=
    (sm (aB hr hw) (fun j=>if conO A B keep j=k then (aB hr hw).mul (elT hr hw dim A (asgN dim a (conL A B) j)) (elT hr hw dim B (asgN dim a (conL A B) j)) else (aB hr hw).zero) i).val:=fun a=>by
  refine xW hr hw (T:=fun i=>eN r wd A B keep (repE (aA r.k r.p wd) (pN dim (conK A B keep))) i) ?_ ?_ ?_ ?_
  ·show (repE (aA r.k r.p wd) (pN dim (conK A B keep))).length=_
   rw[dJ,hz]
  ·intro k hk
   exact rS hz hk
  ·intro i hi
   have eA:(elT hr hw dim A (asgN dim a (conL A B) i)).val=cutE A.data wd (bw A.labels A.dims (conL A B) (aE A B) i):=by
    rw[lK hr hw hA fun x hx=>hasg a i x (ba.2 (.inl hx)),hjd,hA.dm,f9 dim hLn hA.nd (fun x hx=>ba.2 (.inl hx)) a i]
   have eB:(elT hr hw dim B (asgN dim a (conL A B) i)).val=cutE B.data wd (bw B.labels B.dims (conL A B) (aE A B) i):=by
    rw[lK hr hw hB fun x hx=>hasg a i x (ba.2 (.inr hx)),hjd,hB.dm,f9 dim hLn hB.nd (fun x hx=>ba.2 (.inr hx)) a i]
   have e:((aB hr hw).mul (elT hr hw dim A (asgN dim a (conL A B) i)) (elT hr hw dim B (asgN dim a (conL A B) i))).val=conE r wd A B i:=by
    show mulE r _ _=_
    rw[eA,eB];rfl
   rw[e]
   rfl
  ·intro i hi
   unfold conO
   rw[hkd,hjd,f9 dim hLn hKn hKs a i]
   exact fp dim fun x hx=>hasg a i x (hKs x hx)
 have hlab:(conR r wd A B keep).labels=conK A B keep:=rfl
 have hdat:(conR r wd A B keep).data=eN r wd A B keep (repE (aA r.k r.p wd) (pN dim (conK A B keep))) (pN dim (conL A B)):=by
  show eN r wd A B keep (repE (aA r.k r.p wd) (bC (conD A B keep))) (bC (aE A B))=_
  rw[hkd,hjd,lm,lm]
 have hT:TV r wd dim (conR r wd A B keep):=by
  refine⟨hKn,hkd,hKd, ?_, ?_⟩
  ·rw[hdat,hlab];exact(hacc (fun _=>0) _ (Nat.le_refl _)).1
  ·rw[hdat]
   obtain⟨h1,h2⟩:=hacc (fun _=>0) _ (Nat.le_refl _)
   refine rI hr hw h1 fun k hk=> ?_
   rw[h2 k hk]
   exact Subtype.property _
 refine⟨hT,fun a ha=> ?_⟩
 refine xJ hr hw hT ha ?_
 rw[hdat,hlab,(hacc a _ (Nat.le_refl _)).2 _ (fp dim ha)]
 congr 1
 have e1:sm (aB hr hw) (fun j=>if conO A B keep j=offR dim (conK A B keep) a then (aB hr hw).mul (elT hr hw dim A (asgN dim a (conL A B) j)) (elT hr hw dim B (asgN dim a (conL A B) j)) else (aB hr hw).zero) (pN dim (conL A B))=
   sm (aB hr hw) (fun j=>(fun b=>if agr (conK A B keep) b a=true then (aB hr hw).mul (elT hr hw dim A b) (elT hr hw dim B b) else (aB hr hw).zero) (asgN dim a (conL A B) j)) (pN dim (conL A B)):=by
  refine cw _ fun j hj=> ?_
  have hiff:conO A B keep j=offR dim (conK A B keep) a↔agr (conK A B keep) (asgN dim a (conL A B) j) a=true:=by
   unfold conO
   rw[hkd,hjd,f9 dim hLn hKn hKs a j,jg]
   exact⟨fun e=>qc dim (fun x hx=>hasg a j x (hKs x hx)) ha e,fun e=>gN dim e⟩
  by_cases h:conO A B keep j=offR dim (conK A B keep) a
  ·simp only[if_pos h,if_pos (hiff.1 h)]
  ·simp only[if_neg h,if_neg fun e=>h (hiff.2 e)]
 have e3:=zX (aB hr hw) dim (fun b=>if agr (conK A B keep) b a=true then (aB hr hw).mul (elT hr hw dim A b) (elT hr hw dim B b) else (aB hr hw).zero) (conL A B) hLd a
 refine e1.trans (e3.trans ?_)
 rw[o8 _ dim Db hLn,pU]
 refine bJ _ dim fun a' ha'=> ?_
 have hdis:∀ x∈conK A B keep,x∉conX A B keep:=fun x hx h'=>by
  have h1:=(List.mem_filter.1 hx).2
  have h2:=(List.mem_filter.1 h').2
  rw[h1]at h2
  cases h2
 have haa:∀ x∈conK A B keep,a' x=a x:=fun x hx=>ha'.1 x (hdis x hx)
 have e2:sumL (aB hr hw) dim (conK A B keep) (fun b=>if agr (conK A B keep) b a=true then (aB hr hw).mul (elT hr hw dim A b) (elT hr hw dim B b) else (aB hr hw).zero) a'=
   sumL (aB hr hw) dim (conK A B keep) (fun b=>if agr (conK A B keep) b a'=true then (aB hr hw).mul (elT hr hw dim A b) (elT hr hw dim B b) else (aB hr hw).zero) a':=by
  refine bJ _ dim fun b _=> ?_
  have:agr (conK A B keep) b a=agr (conK A B keep) b a':=Bool.eq_iff_iff.2 (by
   rw[jg,jg]
   exact⟨fun h x hx=>(h x hx).trans (haa x hx).symm,fun h x hx=>(h x hx).trans (haa x hx)⟩)
  rw[this]
 rw[e2]
 refine tL (aB hr hw) dim (f:=fun b=>(aB hr hw).mul (elT hr hw dim A b) (elT hr hw dim B b)) hKn (fun x hx=>by rw[haa x hx];exact ha x hx) (fun b b' hb=> ?_) a' fun _ _=>rfl
 simp only[wH hr hw (fun x _=>hb x)]
end
end Go.Proofs.YtjfmckhbmdjnpaaGreat.Sem
