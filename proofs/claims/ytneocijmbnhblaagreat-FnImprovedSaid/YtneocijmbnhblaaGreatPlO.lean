/-
 Plain lists: the tensors that are there while an order is followed. No condition.
-/
import Derived.Test.YtneocijmbnhblaaGreatCoB
import Derived.Test.YtneocijmbnhblaaGreatPlN
set_option linter.unusedSimpArgs false
set_option linter.unusedVariables false
namespace Go.Proofs.YtneocijmbnhblaaGreat
open Plain
structure Osd where
 all:List (List Int)
 gone:List Bool
namespace Osd
def alive (s:Osd) (i:Nat):Bool:= !(s.gone.getD i true)
def nums (s:Osd):List Nat:=(List.range s.all.length).filter s.alive
def lab (s:Osd) (i:Nat):List Int:=s.all.getD i []
def off (a b:Nat) (i:Nat):Bool:=i !=a&&i !=b
def keep (s:Osd) (os:List Int) (a b:Nat):List Int:=os++(s.nums.filter (off a b)).flatMap s.lab
def res (s:Osd) (os:List Int) (a b:Nat):List Int:=(aB (s.lab a) (s.lab b)).filter (has (s.keep os a b))
def step (s:Osd) (os:List Int) (a b:Nat):Osd:=⟨s.all++[s.res os a b],(s.gone.set a true).set b true++[false]⟩
end Osd
def natI (l:List Nat):List Int:=l.map fun (i:Nat)=>(i:Int)
theorem eo {l:List Nat} {x:Int}:x∈natI l↔∃ i:Nat,i∈l∧x=i:=by
 simp only[natI,List.mem_map]
 exact⟨fun⟨i,h,e⟩=>⟨i,h,e.symm⟩,fun⟨i,h,e⟩=>⟨i,h,e.symm⟩⟩
theorem j9 {l:List Nat} (h:l.Nodup):(natI l).Nodup:=List.pairwise_map.2 (h.imp fun hne e=>hne (Int.ofNat.inj e))
theorem mj (l:List Nat):(natI l).length=l.length:=by simp [natI]
theorem jS {l:List Nat} {k:Nat} (h:k<l.length):(natI l)[k]'(by simpa [natI]using h)=(l[k]:Int):=by simp [natI]
def aq (ts:List Ten):Osd:=⟨ts.map Ten.labels,List.replicate ts.length false⟩
structure OsOk (s:Osd) (m:Nat):Prop where
 gl:s.gone.length=s.all.length
 lab:∀ l∈s.all,l.Nodup∧∀ x∈l,0≤x∧x≤99
 n:s.all.length=m
section
variable {s : Osd} {os : List Int} {a b m : Nat}
theorem OsOk.at (h:OsOk s m) (i:Nat):(s.lab i).Nodup∧∀ x∈s.lab i,0≤x∧x≤99:=by
 unfold Osd.lab
 by_cases hi:i<s.all.length
 ·rw[zq,zg hi];exact h.lab _ (List.getElem_mem hi)
 ·rw[zq,List.getElem?_eq_none (by omega)];simp
theorem OsOk.len (h:OsOk s m) (i:Nat):(s.lab i).length≤100:=nu (h.at i).1 (h.at i).2
theorem OsOk.join (h:OsOk s m) (a b:Nat):(aB (s.lab a) (s.lab b)).Nodup∧(∀ x∈aB (s.lab a) (s.lab b),0≤x∧x≤99)∧(aB (s.lab a) (s.lab b)).length≤100:=by
 have h1:=wh (h.at a).1 (h.at b).1
 have h2:∀ x∈aB (s.lab a) (s.lab b),0≤x∧x≤99:=fun x hx=>(bb.1 hx).elim ((h.at a).2 x) ((h.at b).2 x)
 exact⟨h1,h2,nu h1 h2⟩
theorem OsOk.res (h:OsOk s m) (os:List Int) (a b:Nat):(s.res os a b).Nodup∧∀ x∈s.res os a b,0≤x∧x≤99:=
 ⟨(h.join a b).1.filter _,fun x hx=>(h.join a b).2.1 x (List.mem_filter.1 hx).1⟩
theorem OsOk.step (h:OsOk s m) (os:List Int) (a b:Nat):OsOk (s.step os a b) (m+1):=by
 refine⟨by simp [Osd.step,h.gl],fun l hl=> ?_,by simp [Osd.step,h.n]⟩
 simp only[Osd.step,List.mem_append,List.mem_singleton]at hl
 rcases hl with hl | rfl
 ·exact h.lab l hl
 ·exact h.res os a b
theorem ge {ts:List Ten} (h:dg ts):OsOk (aq ts) ts.length:=by
 refine⟨by simp [aq],fun l hl=> ?_,by simp [aq]⟩
 simp only[aq,List.mem_map]at hl
 obtain⟨t,ht,rfl⟩:=hl
 refine⟨cn (h t ht),fun x hx=> ?_⟩
 obtain⟨k,hk,rfl⟩:=List.mem_iff_getElem.1 hx
 have:=(h t ht).2.2 k hk
 unfold axAt at this
 rw[ab hk]at this
 omega
theorem bR (s:Osd):s.nums.Nodup:=List.nodup_range.filter _
theorem em {i:Nat}:i∈s.nums↔i<s.all.length∧s.gone.getD i true=false:=by
 simp [Osd.nums,Osd.alive]
theorem fO (h:OsOk s m):s.nums.length≤m:=by
 have:=List.length_filter_le s.alive (List.range s.all.length)
 rw[List.length_range]at this
 exact Nat.le_trans this (Nat.le_of_eq h.n)
theorem xR (h:OsOk s m) {i:Nat} (hi:i<m):(s.step os a b).alive i=(Osd.off a b i&&s.alive i):=by
 have hg:=h.gl
 have hn:=h.n
 have hi':i<s.gone.length:=by omega
 unfold Osd.alive Osd.step Osd.off
 simp only
 rw[zq,zq,List.getElem?_append_left (by simpa using hi'),List.getElem?_set,List.getElem?_set,zg hi']
 by_cases e1:b=i
 ·subst e1;simp [hi']
 ·have e1':(i==b)=false:=by simp;exact fun e=>e1 e.symm
  rw[if_neg e1]
  by_cases e2:a=i
  ·subst e2;simp [hi']
  ·have e2':(i==a)=false:=by simp;exact fun e=>e2 e.symm
   rw[if_neg e2]
   simp [e1',e2',bne]
theorem d8 (h:OsOk s m):(s.step os a b).nums=s.nums.filter (Osd.off a b)++[m]:=by
 have hn:=h.n
 have e1:(s.step os a b).all.length=m+1:=by simp [Osd.step,hn]
 unfold Osd.nums
 rw[e1,hn,List.range_succ,List.filter_append,List.filter_filter]
 congr 1
 ·exact List.filter_congr fun i hi=>xR h (by simpa using hi)
 ·have:(s.step os a b).alive m=true:=by
   unfold Osd.alive Osd.step
   simp only
   rw[zq,List.getElem?_append_right (by simp [h.gl,hn])]
   simp [h.gl,hn]
  simp [this]
theorem jX (h:OsOk s m) {i:Nat} (hi:i<m):(s.step os a b).lab i=s.lab i:=by
 unfold Osd.lab Osd.step
 simp only
 rw[zq,List.getElem?_append_left (by rw[h.n];exact hi), ← zq]
theorem dU (h:OsOk s m):(s.step os a b).lab m=s.res os a b:=by
 unfold Osd.lab
 rw[zq,Osd.step,List.getElem?_append_right (by rw[h.n];exact Nat.le_refl _),h.n]
 simp
def ka (s:Osd) (os:List Int) (a b:Nat) (l:Int) (q:Nat):Bool:=has os l||(s.nums.take q).any fun i=>Osd.off a b i&&has (s.lab i) l
theorem qG {l:Int}:ka s os a b l 0=has os l:=by simp [ka]
theorem A8 {l:Int} {q:Nat} (hq:q<s.nums.length) (h:(Osd.off a b s.nums[q]&&has (s.lab s.nums[q]) l)=true):ka s os a b l (q+1)=true:=by
 rw[ka,bi hq,List.any_append];simp [h]
theorem qH {l:Int} {q:Nat} (hq:q<s.nums.length) (h:(Osd.off a b s.nums[q]&&has (s.lab s.nums[q]) l)=false):ka s os a b l (q+1)=ka s os a b l q:=by
 rw[ka,bi hq,List.any_append];simp [h,ka]
theorem A9 {l:Int} {q:Nat} (hq:s.nums.length≤q):ka s os a b l q=has (s.keep os a b) l:=by
 rw[ka,zt hq,Bool.eq_iff_iff,Bool.or_eq_true,aY,aY,Osd.keep,List.mem_append,List.any_eq_true]
 refine or_congr Iff.rfl ?_
 simp only[List.mem_flatMap,List.mem_filter,Bool.and_eq_true,aY]
 exact⟨fun⟨i,h1,h2,h3⟩=>⟨i,⟨h1,h2⟩,h3⟩,fun⟨i,⟨h1,h2⟩,h3⟩=>⟨i,h1,h2,h3⟩⟩
theorem nm {l:List Nat} (hn:l.Nodup) {i j k:Nat} (hi:i<l.length) (hj:j<l.length) (hk:k<l.length):Osd.off l[i] l[j] l[k]=(k !=i&&k !=j):=by
 have e:∀ u (hu:u<l.length),(l[k] !=l[u])=(k !=u):=fun u hu=>by
  by_cases e:k=u
  ·subst e;simp
  ·have:l[k]≠l[u]:=fun e2=>e ((List.getElem_inj hn).1 e2)
   show (!(l[k]==l[u]))=(!(k==u))
   rw[beq_eq_false_iff_ne.2 this,beq_eq_false_iff_ne.2 e]
 unfold Osd.off
 rw[e i hi,e j hj]
def dD (s:Osd) (a b:Int):Bool:=decide (a∈natI s.nums∧b∈natI s.nums∧a<b)
def bm (os F:List Int) (s:Osd):Nat→Osd × Bool
 | 0=>(s,true)
 | k+1=>if (bm os F s k).2&&dD (bm os F s k).1 (F.getD (k*2) 0) (F.getD (k*2+1) 0) then ((bm os F s k).1.step os (F.getD (k*2) 0).toNat (F.getD (k*2+1) 0).toNat,true) else ((bm os F s k).1,false)
theorem iE {F:List Int} {k:Nat} (h:(bm os F s k).2=true) (h2:dD (bm os F s k).1 (F.getD (k*2) 0) (F.getD (k*2+1) 0)=true):
  bm os F s (k+1)=((bm os F s k).1.step os (F.getD (k*2) 0).toNat (F.getD (k*2+1) 0).toNat,true):=by rw[bm,h,h2];rfl
theorem BJ {F:List Int} {k:Nat} (h:(bm os F s k).2=true) (h2:dD (bm os F s k).1 (F.getD (k*2) 0) (F.getD (k*2+1) 0)=false):(bm os F s (k+1)).2=false:=by rw[bm,h,h2];rfl
theorem qq {F:List Int} {k:Nat} (h:(bm os F s k).2=false):∀ d,(bm os F s (k+d)).2=false
 | 0=>h
 | d+1=>by rw[← Nat.add_assoc,bm,qq h d];rfl
theorem fi {F:List Int} {n:Nat} (h:(bm os F s n).2=true) {k:Nat} (hk:k≤n):(bm os F s k).2=true:=by
 cases e:(bm os F s k).2
 ·obtain⟨d,rfl⟩:∃ d,n=k+d:=⟨n-k,by omega⟩
  rw[qq e d]at h;cases h
 ·rfl
theorem kO {F:List Int} {n:Nat} (h:(bm os F s n).2=true) {k:Nat} (hk:k<n):dD (bm os F s k).1 (F.getD (k*2) 0) (F.getD (k*2+1) 0)=true:=by
 cases e:dD (bm os F s k).1 (F.getD (k*2) 0) (F.getD (k*2+1) 0)
 ·have:=BJ (fi h (Nat.le_of_lt hk)) e
  rw[fi h hk]at this;cases this
 ·rfl
theorem iF {F:List Int} (h:OsOk s m):∀ k,(bm os F s k).2=true→OsOk (bm os F s k).1 (m+k)
 | 0,_=>h
 | k+1,hk=>by
  have h1:=fi hk (Nat.le_succ k)
  have h2:=kO hk (Nat.lt_succ_self k)
  rw[iE h1 h2]
  exact(iF h k h1).step os _ _
theorem kj {x y:Int} (h:dD s x y=true):∃ a b:Nat,x=a∧y=b∧a∈s.nums∧b∈s.nums∧a<b:=by
 obtain⟨h1,h2,h3⟩:=zd h
 obtain⟨a,ha,rfl⟩:=eo.1 h1
 obtain⟨b,hb,rfl⟩:=eo.1 h2
 exact⟨a,b,rfl,rfl,ha,hb,by omega⟩
noncomputable def am (N:Net) (n:Nat) (F:List Int):Bool:=bC N&&decide (n=N.ts.length-1)&&(bm N.os F (aq N.ts) n).2
theorem ao {N:Net} {n:Nat} {F:List Int}:am N n F=true↔bC N=true∧n=N.ts.length-1∧(bm N.os F (aq N.ts) n).2=true:=by
 simp only[am,Bool.and_eq_true,decide_eq_true_eq,and_assoc]
def ordS (N:Net) (F:List Int) (k:Nat):Osd:=(bm N.os F (aq N.ts) k).1
end
def prs:List Nat→List (Nat × Nat)
 | []=>[]
 | x :: l=>l.map (fun y=>(x,y))++prs l
def cRow (m:Nat):Nat→Nat
 | 0=>0
 | i+1=>cRow m i+(m-1-i)
theorem pR (m:Nat):∀ i,i<m→cRow (m+1) (i+1)=m+cRow m i
 | 0,_=>by simp [cRow]
 | i+1,h=>by
  rw[cRow,pR m i (by omega),cRow]
  omega
theorem me:∀ l:List Nat,(prs l).length=cRow l.length (l.length-1)
 | []=>rfl
 | x :: l=>by
  have ih:=me l
  simp only[prs,List.length_append,List.length_map,Zl,Nat.add_sub_cancel]
  rw[ih]
  cases hl:l.length with
  | zero=>rfl
  | succ n=>
   rw[Nat.add_sub_cancel,pR (n+1) n (by omega)]
theorem wP:∀ m:Nat,2*cRow (m+1) m=(m+1)*m
 | 0=>rfl
 | m+1=>by
  have ih:=wP m
  rw[pR (m+1) m (by omega),Nat.mul_add,ih,show (m+1+1)*(m+1)=(m+1)*(m+1)+1*(m+1)from Nat.add_mul ..,show (m+1)*(m+1)=(m+1)*m+(m+1)from Nat.mul_succ ..]
  omega
theorem vL {l:List Nat} (h:1≤l.length):(prs l).length=l.length*(l.length-1) / 2:=by
 obtain⟨m,hm⟩:∃ m,l.length=m+1:=⟨l.length-1,by omega⟩
 have:=wP m
 rw[me,hm,Nat.add_sub_cancel]
 omega
theorem uh:∀ (l:List Nat) (i q:Nat),(hi:i<l.length)→(hj:i+1+q<l.length)→(prs l)[cRow l.length i+q]? =some (l[i],l[i+1+q])
 | x :: l,0,q,_,hj=>by
  have hq:q<l.length:=by simp at hj;omega
  simp only[prs,cRow,Nat.zero_add]
  rw[List.getElem?_append_left (by simpa using hq)]
  simp [hq,Nat.add_comm 1 q]
 | x :: l,i+1,q,hi,hj=>by
  have hi':i<l.length:=by simpa using hi
  have hj':i+1+q<l.length:=by simp at hj;omega
  have h2:=uh l i q hi' hj'
  simp only[prs,Zl]
  rw[pR _ _ hi',List.getElem?_append_right (by simp;omega)]
  simp only[List.length_map]
  rw[show l.length+cRow l.length i+q-l.length=cRow l.length i+q by omega,h2]
  have e:i+1+1+q=(i+1+q)+1:=by omega
  simp only[List.getElem_cons_succ,e]
theorem pD:∀ {l:List Nat} {p:Nat × Nat},p∈prs l→p.1∈l∧p.2∈l
 | x :: l,p,h=>by
  simp only[prs,List.mem_append,List.mem_map]at h
  rcases h with ⟨y,hy,rfl⟩ | h
  ·exact⟨List.mem_cons_self ..,List.mem_cons_of_mem _ hy⟩
  ·have:=pD h
   exact⟨List.mem_cons_of_mem _ this.1,List.mem_cons_of_mem _ this.2⟩
theorem vT (s:Osd):s.nums.Pairwise (· < ·):=List.Pairwise.filter _ List.pairwise_lt_range
def aW (l:List (Nat × Nat)):List Int:=l.flatMap fun p=>[(p.1:Int),(p.2:Int)]
theorem fr (l:List (Nat × Nat)):(aW l).length=l.length*2:=by
 induction l with
 | nil=>rfl
 | cons x l ih=>rw[aW,List.flatMap_cons,List.length_append, ← aW,ih];simp;omega
theorem xF (l:List (Nat × Nat)) (p:Nat × Nat):aW l++[(p.1:Int),(p.2:Int)]=aW (l++[p]):=by simp [aW]
theorem rf:∀ {l:List (Nat × Nat)} {k:Nat} (h:k<l.length),(aW l).drop (k*2)=(l[k].1:Int) :: (l[k].2:Int) :: aW (l.drop (k+1))
 | x :: l,0,_=>by simp [aW]
 | x :: l,k+1,h=>by
  have:=rf (l:=l) (k:=k) (by simpa using h)
  rw[aW,List.flatMap_cons, ← aW,show (k+1)*2=2+k*2 by omega, ← List.drop_drop]
  simpa using this
end Go.Proofs.YtneocijmbnhblaaGreat
