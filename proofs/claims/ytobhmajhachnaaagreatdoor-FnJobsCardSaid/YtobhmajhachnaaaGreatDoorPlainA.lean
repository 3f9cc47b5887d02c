/-
 Plain facts on lists of integers; no program in sight. No condition.
-/
namespace Go
theorem zd{p:Prop}[Decidable p](h:decide p=true):p:=of_decide_eq_true h
theorem zg{α:Type _}{l:List α}{i:Nat}(h:i<l.length):l[i]? =some l[i]:=List.getElem?_eq_getElem h
theorem zj{α:Type _}(a b:α):(some a=some b)=(a=b):=Option.some.injEq a b
theorem zm{α:Type _}{β:Type _}{b:β}{x:Option α}{f:α→β}:x.map f=some b↔∃a,x=some a∧f a=b:=Option.map_eq_some_iff
theorem zq{α:Type _}{l:List α}{i:Nat}{a:α}:l.getD i a=l[i]?.getD a:=List.getD_eq_getElem?_getD
theorem Zl{α:Type _}{a:α}{l:List α}:(a :: l).length=l.length+1:=List.length_cons
theorem zn{α:Type _}:([]:List α).length=0:=List.length_nil
theorem zt{α:Type _}{i:Nat}{l:List α}(h:l.length≤i):l.take i=l:=List.take_of_length_le h
end Go
namespace Go.Proofs.YtobhmajhachnaaaGreatDoor.Plain
def aa(ds:List Int):Int:=ds.foldl (· * ·) 1
theorem zB(ds:List Int)(a:Int):ds.foldl (· * ·) a=a*aa ds:=by
 unfold aa
 induction ds generalizing a with
 |nil=>simp
 |cons d ds ih=>rw[List.foldl_cons,List.foldl_cons,ih (a*d),ih (1*d),Int.one_mul,Int.mul_assoc]
theorem yU:aa []=1:=rfl
theorem bi(d:Int)(ds:List Int):aa (d :: ds)=d*aa ds:=by
 show List.foldl _ (1*d) ds=_
 rw[zB,Int.one_mul]
theorem dZ(a b:List Int):aa (a++b)=aa a*aa b:=by
 unfold aa;rw[List.foldl_append,zB b];rfl
theorem dq(ds:List Int)(k:Nat)(h:k<ds.length):aa (ds.take (k+1))=aa (ds.take k)*ds.getD k 0:=by
 rw[List.take_succ_eq_append_getElem h,dZ,bi,yU,Int.mul_one];simp [zg h]
theorem aW(ds:List Int)(h:∀d∈ds,1≤d):1≤aa ds:=by
 induction ds with
 |nil=>simp [aa]
 |cons d ds ih=>
  rw[bi];have h1:=h d (by simp);have h2:=ih (fun x hx=>h x (by simp [hx]));have:0<d*aa ds:=Int.mul_pos (by omega) (by omega);omega
theorem lG(ds:List Int)(k:Nat)(h:∀d∈ds,1≤d):aa (ds.take k)≤aa ds:=by
 have e:aa ds=aa (ds.take k)*aa (ds.drop k):=by rw[← dZ,List.take_append_drop]
 have h1:=aW (ds.take k) (fun d hd=>h d (List.mem_of_mem_take hd));have h2:=aW (ds.drop k) (fun d hd=>h d (List.mem_of_mem_drop hd));rw[e];have:aa (ds.take k)*1≤aa (ds.take k)*aa (ds.drop k):=Int.mul_le_mul_of_nonneg_left h2 (by omega);omega
def axAt(ls ds:List Int)(k:Nat):Prop:=0≤ls.getD k 0∧ls.getD k 0≤99∧1≤ds.getD k 0∧ds.getD k 0≤8∧ls.getD k 0∉ls.take k
instance (ls ds:List Int) (k:Nat):Decidable (axAt ls ds k):=by unfold axAt;infer_instance
def axOk(ls ds:List Int):Prop:=ls.length≤12∧ls.length=ds.length∧∀k,k<ls.length→axAt ls ds k
instance (ls ds:List Int):Decidable (axOk ls ds):=by unfold axOk;infer_instance
theorem axOk.dim{ls ds:List Int}(h:axOk ls ds):∀d∈ds,1≤d∧d≤8:=by
 intro d hd;obtain⟨k,hk,e⟩:=List.getElem_of_mem hd;have h3:=h.2.2 k (by rw[h.2.1];exact hk);unfold axAt at h3;rw[show ds.getD k 0=d from by simp [zg hk,e]]at h3;exact⟨h3.2.2.1,h3.2.2.2.1⟩
def aT(ls ds:List Int):Int:=if axOk ls ds∧aa ds≤4096 then aa ds else -1
theorem wu{ls ds:List Int}(h:12<ls.length):aT ls ds= -1:=by
 unfold aT;rw[if_neg];rintro⟨h1,_⟩;have:=h1.1;omega
theorem D8{ls ds:List Int}(h:ls.length≠ds.length):aT ls ds= -1:=by
 unfold aT;rw[if_neg];rintro⟨h1,_⟩;exact h h1.2.1
theorem Bp{ls ds:List Int}(k:Nat)(hk:k<ls.length)(h:¬ axAt ls ds k):aT ls ds= -1:=by
 unfold aT;rw[if_neg];rintro⟨h1,_⟩;exact h (h1.2.2 k hk)
theorem F1{ls ds:List Int}(k:Nat)(hk:k<ls.length)(hl:ls.length=ds.length)(h:4096<aa (ds.take k)*ds.getD k 0):aT ls ds= -1:=by
 unfold aT;rw[if_neg]
 rintro⟨h1,h2⟩
 have:=lG ds (k+1) (fun d hd=>(h1.dim d hd).1);rw[dq ds k (by omega)]at this;omega
theorem wv{ls ds:List Int}(h0:ls.length≤12)(h1:ls.length=ds.length)(h2:∀k,k<ls.length→axAt ls ds k)(h3:aa ds≤4096):aT ls ds=aa ds:=by
 unfold aT;rw[if_pos ⟨⟨h0,h1,h2⟩,h3⟩]
theorem dd(ls ds:List Int):aT ls ds= -1∨(axOk ls ds∧aa ds≤4096∧aT ls ds=aa ds∧1≤aa ds):=by
 unfold aT;by_cases h:axOk ls ds∧aa ds≤4096
 ·rw[if_pos h];exact .inr ⟨h.1,h.2,rfl,aW ds fun d hd=>(h.1.dim d hd).1⟩
 ·rw[if_neg h];exact .inl rfl
def has(xs:List Int)(x:Int):Bool:=decide (x∈xs)
theorem aQ{xs:List Int}{x:Int}:has xs x=true↔x∈xs:=by simp [has]
theorem aI{xs:List Int}{x:Int}:has xs x=false↔x∉xs:=by simp [has]
theorem lH(xs:List Int)(k:Nat)(x:Int)(h:k<xs.length):x∈xs.take (k+1)↔x∈xs.take k∨x=xs.getD k 0:=by
 rw[List.take_succ_eq_append_getElem h,List.mem_append];simp [zg h]
theorem dN(xs:List Int)(k:Nat)(h:k<xs.length):xs.getD k 0∈xs:=by
 simp [zg h]
def place(xs:List Int)(x:Int):Int:=if x∈xs then (xs.idxOf x:Int) else -1
theorem gz{xs:List Int}{x:Int}(h:x∉xs):place xs x= -1:=by unfold place;rw[if_neg h]
theorem Fj{xs:List Int}{k:Nat}(hk:k<xs.length)(h:xs.getD k 0∉xs.take k):place xs (xs.getD k 0)=k:=by
 unfold place;have hg:xs.getD k 0=xs[k]:=by simp [zg hk]
 rw[if_pos (dN xs k hk)];have hs:xs=xs.take k++xs[k] :: xs.drop (k+1):=by rw[← List.drop_eq_getElem_cons hk,List.take_append_drop]
 rw[hg]at h ⊢;have hi:List.idxOf xs[k] (xs.take k++xs[k] :: xs.drop (k+1))=k:=by
  rw[List.idxOf_append,if_neg h,List.idxOf_cons_self]
  simp;omega
 rw[← hs]at hi;omega
theorem cx{xs:List Int}{x:Int}:place xs x<0↔x∉xs:=by
 unfold place;by_cases h:x∈xs
 ·rw[if_pos h];constructor
  ·intro h2;omega
  ·intro h2;exact absurd h h2
 ·rw[if_neg h];simp [h]
theorem Kf(p y m:Int)(hy:1≤y)(hm:1≤m):min (min p m*y) m=min (p*y) m:=by
 rcases Int.le_total p m with h|h
 ·rw[Int.min_eq_left h]
 ·rw[Int.min_eq_right h]
  have h1:m≤m*y:=by have:=Int.mul_le_mul_of_nonneg_left hy (show 0≤m by omega);omega
  have h2:m*y≤p*y:=Int.mul_le_mul_of_nonneg_right h (by omega);omega
end Go.Proofs.YtobhmajhachnaaaGreatDoor.Plain
namespace Go.Proofs.YtobhmajhachnaaaGreatDoor.Plain
def eM(ds is:List Int):Nat→Int
 |0=>0
 |k+1=>eM ds is k*ds.getD k 0+is.getD k 0
def xC(ds is:List Int)(k:Nat):Prop:=0≤is.getD k 0∧is.getD k 0<ds.getD k 0
instance (ds is:List Int) (k:Nat):Decidable (xC ds is k):=by unfold xC;infer_instance
def vj(ds is:List Int):Prop:=is.length=ds.length∧∀k,k<ds.length→xC ds is k
instance (ds is:List Int):Decidable (vj ds is):=by unfold vj;infer_instance
def offs(ds is:List Int):Int:=eM ds is ds.length
theorem z7(ds is:List Int)(hd:∀d∈ds,1≤d):∀k,k≤ds.length→(∀j,j<k→xC ds is j)→0≤eM ds is k∧eM ds is k<aa (ds.take k):=by
 intro k
 induction k with
 |zero=>intro _ _;simp [eM,aa]
 |succ k ih=>
  intro hk h;obtain⟨h1,h2⟩:=ih (by omega) (fun j hj=>h j (by omega));obtain⟨h3,h4⟩:=h k (by omega);have hdk:=hd _ (dN ds k (by omega));rw[dq ds k (by omega)]
  show 0≤eM ds is k*ds.getD k 0+is.getD k 0∧eM ds is k*ds.getD k 0+is.getD k 0<_
  have h5:0≤eM ds is k*ds.getD k 0:=Int.mul_nonneg h1 (by omega);have h6:(eM ds is k+1)*ds.getD k 0≤aa (ds.take k)*ds.getD k 0:=Int.mul_le_mul_of_nonneg_right (by omega) (by omega);rw[Int.add_mul,Int.one_mul]at h6;omega
theorem oB(ds is:List Int)(k:Nat):eM ds is (k+1)=eM ds is k*ds.getD k 0+is.getD k 0:=rfl
theorem Eo(ls ds is:List Int)(h:axOk ls ds)(hi:vj ds is):0≤offs ds is∧offs ds is<aa ds:=by
 have:=z7 ds is (fun d hd=>(h.dim d hd).1) ds.length (Nat.le_refl _) hi.2
 rwa [List.take_length]at this
def p5(ds:List Int)(n:Int)(k:Nat):Int:=(n / aa (ds.drop (k+1))) % ds.getD k 0
def ab(ds:List Int)(n:Int):List Int:=(List.range ds.length).map (p5 ds n)
theorem aJ(ds:List Int)(n:Int):(ab ds n).length=ds.length:=by simp [ab]
theorem eP(ds:List Int)(n:Int)(k:Nat)(h:k<ds.length):(ab ds n).getD k 0=p5 ds n k:=by simp [ab,h]
theorem Dg(ds:List Int)(k:Nat)(h:k<ds.length):aa (ds.drop k)=ds.getD k 0*aa (ds.drop (k+1)):=by
 rw[List.drop_eq_getElem_cons h,bi];simp [zg h]
theorem yP(ds:List Int)(n:Int)(k:Nat)(h:k<ds.length)(hd:∀d∈ds,1≤d):n / aa (ds.drop (k+1)) / ds.getD k 0=n / aa (ds.drop k):=by
 rw[Dg ds k h,Int.ediv_ediv_of_nonneg (by have:=aW (ds.drop (k+1)) (fun d hx=>hd d (List.mem_of_mem_drop hx));omega),Int.mul_comm]
end Go.Proofs.YtobhmajhachnaaaGreatDoor.Plain
namespace Go.Proofs.YtobhmajhachnaaaGreatDoor.Plain
def bZ(n:Int):Bool:=decide (2≤n∧n≤1000003∧∀d:Nat,d<1001→2≤d→(d:Int)*d≤n→n % d≠0)
theorem xB{n:Int}(h:n<2):bZ n=false:=decide_eq_false (fun x=>by omega)
theorem rB{n:Int}(h:1000003<n):bZ n=false:=decide_eq_false (fun x=>by omega)
theorem GF{d:Nat}{n:Int}(h:(d:Int)*d≤n)(hn:n≤1000003):d≤1000:=by
 rcases Nat.lt_or_ge 1000 d with h1|h1
 ·have h2:1001*1001≤d*d:=Nat.mul_le_mul h1 h1
  have h3:((d*d:Nat):Int)=(d:Int)*d:=by simp
  omega
 ·exact h1
theorem vi{n:Int}{d:Nat}(h2:2≤d)(h3:(d:Int)*d≤n)(h4:n≤1000003)(h5:n % d=0):bZ n=false:=
 decide_eq_false (fun x=>x.2.2 d (by have:=GF h3 h4;omega) h2 h3 h5)
theorem vh{n:Int}{k:Nat}(h1:2≤n)(h2:n≤1000003)(h3:∀d:Nat,2≤d→d<k→n % d≠0)(h4:n<(k:Int)*k):bZ n=true:=by
 refine decide_eq_true ⟨h1,h2,fun d _ hd2 hdn=>h3 d hd2 ?_⟩;rcases Nat.lt_or_ge d k with h|h
 ·exact h
 ·have h5:k*k≤d*d:=Nat.mul_le_mul h h
  have h6:((d*d:Nat):Int)=(d:Int)*d:=by simp
  have h7:((k*k:Nat):Int)=(k:Int)*k:=by simp
  omega
theorem Lb{k:Nat}(h:k≤1001):0≤(k:Int)*k∧(k:Int)*k≤1002001:=by
 have h1:k*k≤1001*1001:=Nat.mul_le_mul h h;have h2:((k*k:Nat):Int)=(k:Int)*k:=by simp
 omega
theorem bU{n:Int}(h:bZ n=true):2≤n∧n≤1000003:=by
 have:=zd h;exact⟨this.1,this.2.1⟩
structure Rg where
 k:Int
 p:Int
 n:Int
def ai(r:Rg):Bool:=
 if r.k=1 then decide (r.p=0∧r.n=0)
 else if r.k=2 then bZ r.p&&decide (r.n=0)
 else if r.k=3∨r.k=4∨r.k=5 then decide (1≤r.p∧r.p≤1000000∧r.n=0)
 else if r.k=6 then decide (r.p=0∧1≤r.n∧r.n≤20)
 else if r.k=7 then bZ r.p&&decide (1≤r.n∧r.n≤6)
 else if r.k=8 then bZ r.p&&decide (r.p≠2∧r.n=0)
 else false
def af(r:Rg):Int:=if r.k=7 then r.n else if r.k=8 then 4 else 1
def top(r:Rg):Int:=if r.k=1 then 1 else if r.k=3∨r.k=4∨r.k=5 then r.p else if r.k=6 then 2 ^ r.n.toNat-1 else r.p-1
theorem aO{r:Rg}(h:ai r=true):
  (r.k=1∧r.p=0∧r.n=0)∨(r.k=2∧bZ r.p=true∧r.n=0)∨(r.k=3∧1≤r.p∧r.p≤1000000∧r.n=0)∨(r.k=4∧1≤r.p∧r.p≤1000000∧r.n=0)∨
  (r.k=5∧1≤r.p∧r.p≤1000000∧r.n=0)∨(r.k=6∧r.p=0∧1≤r.n∧r.n≤20)∨(r.k=7∧bZ r.p=true∧1≤r.n∧r.n≤6)∨(r.k=8∧bZ r.p=true∧r.p≠2∧r.n=0):=by
 unfold ai at h;split at h
 ·simp at h;omega
 ·split at h
  ·simp at h;exact .inr (.inl ⟨by assumption,h⟩)
  ·split at h
   ·simp at h;omega
   ·split at h
    ·simp at h;omega
    ·split at h
     ·simp at h;exact .inr (.inr (.inr (.inr (.inr (.inr (.inl ⟨by assumption,h⟩))))))
     ·split at h
      ·simp at h;exact .inr (.inr (.inr (.inr (.inr (.inr (.inr ⟨by assumption,h⟩))))))
      ·cases h
theorem cm{r:Rg}(h:ai r=true):1≤af r∧af r≤6:=by
 unfold af;rcases aO h with h|h|h|h|h|h|h|h<;>(split<;>(try split)<;>omega)
theorem Dh{n:Int}(h1:1≤n)(h2:n≤20):2≤(2:Int) ^ n.toNat∧(2:Int) ^ n.toNat≤1048576:=by
 obtain⟨m,rfl⟩:∃m:Nat,n=(m:Int):=⟨n.toNat,by omega⟩;rw[Int.toNat_natCast];have a:2 ^ 1≤2 ^ m:=Nat.pow_le_pow_right (by omega) (by omega);have b:2 ^ m≤2 ^ 20:=Nat.pow_le_pow_right (by omega) (by omega);have c:((2 ^ m:Nat):Int)=(2:Int) ^ m:=by simp
 omega
theorem dA{r:Rg}(h:ai r=true):1≤top r∧top r≤1048576:=by
 unfold top;rcases aO h with h|h|h|h|h|h|h|h
 ·rw[if_pos h.1];omega
 ·have:=bU h.2.1;rw[if_neg (by omega),if_neg (by omega),if_neg (by omega)];omega
 ·rw[if_neg (by omega),if_pos (by omega)];omega
 ·rw[if_neg (by omega),if_pos (by omega)];omega
 ·rw[if_neg (by omega),if_pos (by omega)];omega
 ·have:=Dh h.2.2.1 h.2.2.2;rw[if_neg (by omega),if_neg (by omega),if_pos (by omega)];omega
 ·have:=bU h.2.1;rw[if_neg (by omega),if_neg (by omega),if_neg (by omega)];omega
 ·have:=bU h.2.1;rw[if_neg (by omega),if_neg (by omega),if_neg (by omega)];omega
def fits(r:Rg)(xs:List Int):Prop:=∀k,k<xs.length→0≤xs.getD k 0∧xs.getD k 0≤top r
instance (r:Rg) (xs:List Int):Decidable (fits r xs):=by unfold fits;infer_instance
def jm(r:Rg)(xs:List Int):Bool:=decide (fits r xs)
theorem xH{r:Rg}{xs:List Int}(k:Nat)(hk:k<xs.length)(h:¬(0≤xs.getD k 0∧xs.getD k 0≤top r)):jm r xs=false:=decide_eq_false (fun x=>h (x k hk))
theorem zJ{r:Rg}{xs:List Int}(h:∀k,k<xs.length→0≤xs.getD k 0∧xs.getD k 0≤top r):jm r xs=true:=decide_eq_true h
def uJ(r:Rg)(xs:List Int):Bool:=ai r&&decide ((xs.length:Int)=af r)&&jm r xs
def al(r:Rg)(ls ds xs:List Int):Bool:=ai r&&decide (aT ls ds≠ -1∧(xs.length:Int)=aT ls ds*af r)&&jm r xs
end Go.Proofs.YtobhmajhachnaaaGreatDoor.Plain
