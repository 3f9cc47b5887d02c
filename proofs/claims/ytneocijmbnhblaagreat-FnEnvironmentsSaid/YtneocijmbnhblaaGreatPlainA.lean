/-
 Plain facts on lists of integers; no program in sight. No condition.
-/
namespace Go.Proofs.YtneocijmbnhblaaGreat.Plain
def ab (ds:List Int):Int:=ds.foldl (· * ·) 1
theorem sg (ds:List Int) (a:Int):ds.foldl (· * ·) a=a*ab ds:=by
 unfold ab
 induction ds generalizing a with
 | nil=>simp
 | cons d ds ih=>rw[List.foldl_cons,List.foldl_cons,ih (a*d),ih (1*d),Int.one_mul,Int.mul_assoc]
theorem rR:ab []=1:=rfl
theorem bo (d:Int) (ds:List Int):ab (d :: ds)=d*ab ds:=by
 show List.foldl _ (1*d) ds=_
 rw[sg,Int.one_mul]
theorem dJ (a b:List Int):ab (a++b)=ab a*ab b:=by
 unfold ab
 rw[List.foldl_append,sg b];rfl
theorem di (ds:List Int) (k:Nat) (h:k<ds.length):ab (ds.take (k+1))=ab (ds.take k)*ds.getD k 0:=by
 rw[List.take_succ_eq_append_getElem h,dJ,bo,rR,Int.mul_one]
 simp [List.getElem?_eq_getElem h]
theorem bi (ds:List Int) (h:∀ d∈ds,1≤d):1≤ab ds:=by
 induction ds with
 | nil=>simp [ab]
 | cons d ds ih=>
  rw[bo]
  have h1:=h d (by simp)
  have h2:=ih (fun x hx=>h x (by simp [hx]))
  have:0<d*ab ds:=Int.mul_pos (by omega) (by omega)
  omega
theorem i6 (ds:List Int) (k:Nat) (h:∀ d∈ds,1≤d):ab (ds.take k)≤ab ds:=by
 have e:ab ds=ab (ds.take k)*ab (ds.drop k):=by rw[← dJ,List.take_append_drop]
 have h1:=bi (ds.take k) (fun d hd=>h d (List.mem_of_mem_take hd))
 have h2:=bi (ds.drop k) (fun d hd=>h d (List.mem_of_mem_drop hd))
 rw[e]
 have:ab (ds.take k)*1≤ab (ds.take k)*ab (ds.drop k):=Int.mul_le_mul_of_nonneg_left h2 (by omega)
 omega
def axAt (ls ds:List Int) (k:Nat):Prop:=0≤ls.getD k 0∧ls.getD k 0≤99∧1≤ds.getD k 0∧ds.getD k 0≤8∧ls.getD k 0∉ls.take k
instance (ls ds:List Int) (k:Nat):Decidable (axAt ls ds k):=by unfold axAt;infer_instance
def axOk (ls ds:List Int):Prop:=ls.length≤12∧ls.length=ds.length∧∀ k,k<ls.length→axAt ls ds k
instance (ls ds:List Int):Decidable (axOk ls ds):=by unfold axOk;infer_instance
theorem axOk.dim {ls ds:List Int} (h:axOk ls ds):∀ d∈ds,1≤d∧d≤8:=by
 intro d hd
 obtain⟨k,hk,e⟩:=List.getElem_of_mem hd
 have h3:=h.2.2 k (by rw[h.2.1];exact hk)
 unfold axAt at h3
 rw[show ds.getD k 0=d from by simp [List.getElem?_eq_getElem hk,e]]at h3
 exact⟨h3.2.2.1,h3.2.2.2.1⟩
def be (ls ds:List Int):Int:=if axOk ls ds∧ab ds≤4096 then ab ds else -1
theorem pD {ls ds:List Int} (h:12<ls.length):be ls ds= -1:=by
 unfold be;rw[if_neg];rintro⟨h1,_⟩;have:=h1.1;omega
theorem vL {ls ds:List Int} (h:ls.length≠ds.length):be ls ds= -1:=by
 unfold be;rw[if_neg];rintro⟨h1,_⟩;exact h h1.2.1
theorem uc {ls ds:List Int} (k:Nat) (hk:k<ls.length) (h:¬ axAt ls ds k):be ls ds= -1:=by
 unfold be;rw[if_neg];rintro⟨h1,_⟩;exact h (h1.2.2 k hk)
theorem xP {ls ds:List Int} (k:Nat) (hk:k<ls.length) (hl:ls.length=ds.length) (h:4096<ab (ds.take k)*ds.getD k 0):be ls ds= -1:=by
 unfold be;rw[if_neg]
 rintro⟨h1,h2⟩
 have:=i6 ds (k+1) (fun d hd=>(h1.dim d hd).1)
 rw[di ds k (by omega)]at this
 omega
theorem vM {ls ds:List Int} (h0:ls.length≤12) (h1:ls.length=ds.length) (h2:∀ k,k<ls.length→axAt ls ds k) (h3:ab ds≤4096):be ls ds=ab ds:=by
 unfold be;rw[if_pos ⟨⟨h0,h1,h2⟩,h3⟩]
theorem d9 (ls ds:List Int):be ls ds= -1∨(axOk ls ds∧ab ds≤4096∧be ls ds=ab ds∧1≤ab ds):=by
 unfold be
 by_cases h:axOk ls ds∧ab ds≤4096
 ·rw[if_pos h];exact .inr ⟨h.1,h.2,rfl,bi ds fun d hd=>(h.1.dim d hd).1⟩
 ·rw[if_neg h];exact .inl rfl
def has (xs:List Int) (x:Int):Bool:=decide (x∈xs)
theorem ba {xs:List Int} {x:Int}:has xs x=true↔x∈xs:=by simp [has]
theorem bH {xs:List Int} {x:Int}:has xs x=false↔x∉xs:=by simp [has]
theorem r9 (xs:List Int) (k:Nat) (x:Int) (h:k<xs.length):x∈xs.take (k+1)↔x∈xs.take k∨x=xs.getD k 0:=by
 rw[List.take_succ_eq_append_getElem h,List.mem_append]
 simp [List.getElem?_eq_getElem h]
theorem fh (xs:List Int) (k:Nat) (h:k<xs.length):xs.getD k 0∈xs:=by
 simp [List.getElem?_eq_getElem h]
def place (xs:List Int) (x:Int):Int:=if x∈xs then (xs.idxOf x:Int) else -1
theorem gf {xs:List Int} {x:Int} (h:x∉xs):place xs x= -1:=by unfold place;rw[if_neg h]
theorem y7 {xs:List Int} {k:Nat} (hk:k<xs.length) (h:xs.getD k 0∉xs.take k):place xs (xs.getD k 0)=k:=by
 unfold place
 have hg:xs.getD k 0=xs[k]:=by simp [List.getElem?_eq_getElem hk]
 rw[if_pos (fh xs k hk)]
 have hs:xs=xs.take k++xs[k] :: xs.drop (k+1):=by rw[← List.drop_eq_getElem_cons hk,List.take_append_drop]
 rw[hg]at h ⊢
 have hi:List.idxOf xs[k] (xs.take k++xs[k] :: xs.drop (k+1))=k:=by
  rw[List.idxOf_append,if_neg h,List.idxOf_cons_self]
  simp;omega
 rw[← hs]at hi
 omega
theorem dK {xs:List Int} {x:Int}:place xs x<0↔x∉xs:=by
 unfold place
 by_cases h:x∈xs
 ·rw[if_pos h];constructor
  ·intro h2;omega
  ·intro h2;exact absurd h h2
 ·rw[if_neg h];simp [h]
theorem Cn (p y m:Int) (hy:1≤y) (hm:1≤m):min (min p m*y) m=min (p*y) m:=by
 rcases Int.le_total p m with h | h
 ·rw[Int.min_eq_left h]
 ·rw[Int.min_eq_right h]
  have h1:m≤m*y:=by have:=Int.mul_le_mul_of_nonneg_left hy (show 0≤m by omega);omega
  have h2:m*y≤p*y:=Int.mul_le_mul_of_nonneg_right h (by omega)
  omega
end Go.Proofs.YtneocijmbnhblaaGreat.Plain
namespace Go.Proofs.YtneocijmbnhblaaGreat.Plain
def et (ds is:List Int):Nat→Int
 | 0=>0
 | k+1=>et ds is k*ds.getD k 0+is.getD k 0
def oD (ds is:List Int) (k:Nat):Prop:=0≤is.getD k 0∧is.getD k 0<ds.getD k 0
instance (ds is:List Int) (k:Nat):Decidable (oD ds is k):=by unfold oD;infer_instance
def oC (ds is:List Int):Prop:=is.length=ds.length∧∀ k,k<ds.length→oD ds is k
instance (ds is:List Int):Decidable (oC ds is):=by unfold oC;infer_instance
def offs (ds is:List Int):Int:=et ds is ds.length
theorem rU (ds is:List Int) (hd:∀ d∈ds,1≤d):∀ k,k≤ds.length→(∀ j,j<k→oD ds is j)→0≤et ds is k∧et ds is k<ab (ds.take k):=by
 intro k
 induction k with
 | zero=>intro _ _;simp [et,ab]
 | succ k ih=>
  intro hk h
  obtain⟨h1,h2⟩:=ih (by omega) (fun j hj=>h j (by omega))
  obtain⟨h3,h4⟩:=h k (by omega)
  have hdk:=hd _ (fh ds k (by omega))
  rw[di ds k (by omega)]
  show 0≤et ds is k*ds.getD k 0+is.getD k 0∧et ds is k*ds.getD k 0+is.getD k 0<_
  have h5:0≤et ds is k*ds.getD k 0:=Int.mul_nonneg h1 (by omega)
  have h6:(et ds is k+1)*ds.getD k 0≤ab (ds.take k)*ds.getD k 0:=Int.mul_le_mul_of_nonneg_right (by omega) (by omega)
  rw[Int.add_mul,Int.one_mul]at h6
  omega
theorem jL (ds is:List Int) (k:Nat):et ds is (k+1)=et ds is k*ds.getD k 0+is.getD k 0:=rfl
theorem xd (ls ds is:List Int) (h:axOk ls ds) (hi:oC ds is):0≤offs ds is∧offs ds is<ab ds:=by
 have:=rU ds is (fun d hd=>(h.dim d hd).1) ds.length (Nat.le_refl _) hi.2
 rwa [List.take_length]at this
def oK (ds:List Int) (n:Int) (k:Nat):Int:=(n / ab (ds.drop (k+1))) % ds.getD k 0
def an (ds:List Int) (n:Int):List Int:=(List.range ds.length).map (oK ds n)
theorem bg (ds:List Int) (n:Int):(an ds n).length=ds.length:=by simp [an]
theorem jg (ds:List Int) (n:Int) (k:Nat) (h:k<ds.length):(an ds n).getD k 0=oK ds n k:=by simp [an,h]
theorem vU (ds:List Int) (k:Nat) (h:k<ds.length):ab (ds.drop k)=ds.getD k 0*ab (ds.drop (k+1)):=by
 rw[List.drop_eq_getElem_cons h,bo]
 simp [List.getElem?_eq_getElem h]
theorem y5 (ds:List Int) (n:Int) (k:Nat) (h:k<ds.length) (hd:∀ d∈ds,1≤d):n / ab (ds.drop (k+1)) / ds.getD k 0=n / ab (ds.drop k):=by
 rw[vU ds k h,Int.ediv_ediv_of_nonneg (by have:=bi (ds.drop (k+1)) (fun d hx=>hd d (List.mem_of_mem_drop hx));omega),Int.mul_comm]
end Go.Proofs.YtneocijmbnhblaaGreat.Plain
namespace Go.Proofs.YtneocijmbnhblaaGreat.Plain
def c9 (n:Int):Bool:=decide (2≤n∧n≤1000003∧∀ d:Nat,d<1001→2≤d→(d:Int)*d≤n→n % d≠0)
theorem qB {n:Int} (h:n<2):c9 n=false:=decide_eq_false (fun x=>by omega)
theorem lk {n:Int} (h:1000003<n):c9 n=false:=decide_eq_false (fun x=>by omega)
theorem zd {d:Nat} {n:Int} (h:(d:Int)*d≤n) (hn:n≤1000003):d≤1000:=by
 rcases Nat.lt_or_ge 1000 d with h1 | h1
 ·have h2:1001*1001≤d*d:=Nat.mul_le_mul h1 h1
  have h3:((d*d:Nat):Int)=(d:Int)*d:=by simp
  omega
 ·exact h1
theorem oB {n:Int} {d:Nat} (h2:2≤d) (h3:(d:Int)*d≤n) (h4:n≤1000003) (h5:n % d=0):c9 n=false:=
 decide_eq_false (fun x=>x.2.2 d (by have:=zd h3 h4;omega) h2 h3 h5)
theorem oA {n:Int} {k:Nat} (h1:2≤n) (h2:n≤1000003) (h3:∀ d:Nat,2≤d→d<k→n % d≠0) (h4:n<(k:Int)*k):c9 n=true:=by
 refine decide_eq_true ⟨h1,h2,fun d _ hd2 hdn=>h3 d hd2 ?_⟩
 rcases Nat.lt_or_ge d k with h | h
 ·exact h
 ·have h5:k*k≤d*d:=Nat.mul_le_mul h h
  have h6:((d*d:Nat):Int)=(d:Int)*d:=by simp
  have h7:((k*k:Nat):Int)=(k:Int)*k:=by simp
  omega
theorem Db {k:Nat} (h:k≤1001):0≤(k:Int)*k∧(k:Int)*k≤1002001:=by
 have h1:k*k≤1001*1001:=Nat.mul_le_mul h h
 have h2:((k*k:Nat):Int)=(k:Int)*k:=by simp
 omega
theorem bV {n:Int} (h:c9 n=true):2≤n∧n≤1000003:=by
 have:=of_decide_eq_true h
 exact⟨this.1,this.2.1⟩
structure Rg where
 k:Int
 p:Int
 n:Int
def aq (r:Rg):Bool:=
 if r.k=1 then decide (r.p=0∧r.n=0)
 else if r.k=2 then c9 r.p&&decide (r.n=0)
 else if r.k=3∨r.k=4∨r.k=5 then decide (1≤r.p∧r.p≤1000000∧r.n=0)
 else if r.k=6 then decide (r.p=0∧1≤r.n∧r.n≤20)
 else if r.k=7 then c9 r.p&&decide (1≤r.n∧r.n≤6)
 else if r.k=8 then c9 r.p&&decide (r.p≠2∧r.n=0)
 else false
def ar (r:Rg):Int:=if r.k=7 then r.n else if r.k=8 then 4 else 1
def top (r:Rg):Int:=if r.k=1 then 1 else if r.k=3∨r.k=4∨r.k=5 then r.p else if r.k=6 then 2 ^ r.n.toNat-1 else r.p-1
theorem aR {r:Rg} (h:aq r=true):
  (r.k=1∧r.p=0∧r.n=0)∨(r.k=2∧c9 r.p=true∧r.n=0)∨(r.k=3∧1≤r.p∧r.p≤1000000∧r.n=0)∨(r.k=4∧1≤r.p∧r.p≤1000000∧r.n=0)∨
  (r.k=5∧1≤r.p∧r.p≤1000000∧r.n=0)∨(r.k=6∧r.p=0∧1≤r.n∧r.n≤20)∨(r.k=7∧c9 r.p=true∧1≤r.n∧r.n≤6)∨(r.k=8∧c9 r.p=true∧r.p≠2∧r.n=0):=by
 unfold aq at h
 split at h
 ·simp at h;omega
 ·split at h
  ·simp at h;exact .inr (.inl ⟨by assumption,h⟩)
  ·split at h
   ·simp at h;omega
   ·split at h
    ·simp at h;omega
    ·split at h
     ·simp at h;exact .inr (.inr (.inr (.inr (.inr (.inr (.inl ⟨by assumption,h⟩))))))
     ·split at h
      ·simp at h;exact .inr (.inr (.inr (.inr (.inr (.inr (.inr ⟨by assumption,h⟩))))))
      ·cases h
theorem cq {r:Rg} (h:aq r=true):1≤ar r∧ar r≤6:=by
 unfold ar
 rcases aR h with h | h | h | h | h | h | h | h<;>(split<;>(try split)<;>omega)
theorem vV {n:Int} (h1:1≤n) (h2:n≤20):2≤(2:Int) ^ n.toNat∧(2:Int) ^ n.toNat≤1048576:=by
 obtain⟨m,rfl⟩:∃ m:Nat,n=(m:Int):=⟨n.toNat,by omega⟩
 rw[Int.toNat_natCast]
 have a:2 ^ 1≤2 ^ m:=Nat.pow_le_pow_right (by omega) (by omega)
 have b:2 ^ m≤2 ^ 20:=Nat.pow_le_pow_right (by omega) (by omega)
 have c:((2 ^ m:Nat):Int)=(2:Int) ^ m:=by simp
 omega
theorem dP {r:Rg} (h:aq r=true):1≤top r∧top r≤1048576:=by
 unfold top
 rcases aR h with h | h | h | h | h | h | h | h
 ·rw[if_pos h.1];omega
 ·have:=bV h.2.1;rw[if_neg (by omega),if_neg (by omega),if_neg (by omega)];omega
 ·rw[if_neg (by omega),if_pos (by omega)];omega
 ·rw[if_neg (by omega),if_pos (by omega)];omega
 ·rw[if_neg (by omega),if_pos (by omega)];omega
 ·have:=vV h.2.2.1 h.2.2.2;rw[if_neg (by omega),if_neg (by omega),if_pos (by omega)];omega
 ·have:=bV h.2.1;rw[if_neg (by omega),if_neg (by omega),if_neg (by omega)];omega
 ·have:=bV h.2.1;rw[if_neg (by omega),if_neg (by omega),if_neg (by omega)];omega
def fits (r:Rg) (xs:List Int):Prop:=∀ k,k<xs.length→0≤xs.getD k 0∧xs.getD k 0≤top r
instance (r:Rg) (xs:List Int):Decidable (fits r xs):=by unfold fits;infer_instance
def ju (r:Rg) (xs:List Int):Bool:=decide (fits r xs)
theorem qH {r:Rg} {xs:List Int} (k:Nat) (hk:k<xs.length) (h:¬ (0≤xs.getD k 0∧xs.getD k 0≤top r)):ju r xs=false:=decide_eq_false (fun x=>h (x k hk))
theorem sj {r:Rg} {xs:List Int} (h:∀ k,k<xs.length→0≤xs.getD k 0∧xs.getD k 0≤top r):ju r xs=true:=decide_eq_true h
def aA (r:Rg) (ls ds xs:List Int):Bool:=aq r&&decide (be ls ds≠ -1∧(xs.length:Int)=be ls ds*ar r)&&ju r xs
end Go.Proofs.YtneocijmbnhblaaGreat.Plain
