/-
 Plain lists: the tensors that are there while an order is followed. No condition.
-/
import Derived.Test.YtjfmckhbmdjnpaaGreatCoB
import Derived.Test.YtjfmckhbmdjnpaaGreatPlN
set_option linter.unusedSimpArgs false
set_option linter.unusedVariables false
namespace Go.Proofs.YtjfmckhbmdjnpaaGreat
open Plain
structure Osd where
 all:List (List Int)
 gone:List Bool
namespace Osd
def alive (s:Osd) (i:Nat):Bool:= !(s.gone.getD i true)
def nums (s:Osd):List Nat:=(List.range s.all.length).filter s.alive
def lab (s:Osd) (i:Nat):List Int:=s.all.getD i []
def off (a b:Nat) (i:Nat):Bool:=i !=a&&i !=b
def keep (s:Osd) (os:List Int) (a b:Nat):List Int:=os++(s.nums.filter (off a b)).flatMap s.lab
def res (s:Osd) (os:List Int) (a b:Nat):List Int:=(ao (s.lab a) (s.lab b)).filter (has (s.keep os a b))
def step (s:Osd) (os:List Int) (a b:Nat):Osd:=⟨s.all++[s.res os a b],(s.gone.set a true).set b true++[false]⟩
end Osd
def natI (l:List Nat):List Int:=l.map fun (i:Nat)=>(i:Int)
theorem lL {l:List Nat} {x:Int}:x∈natI l↔∃ i:Nat,i∈l∧x=i:=by
 simp only[natI,List.mem_map]
 exact⟨fun⟨i,h,e⟩=>⟨i,h,e.symm⟩,fun⟨i,h,e⟩=>⟨i,h,e.symm⟩⟩
theorem vM {l:List Nat} (h:l.Nodup):(natI l).Nodup:=List.pairwise_map.2 (h.imp fun hne e=>hne (Int.ofNat.inj e))
theorem AL (l:List Nat):(natI l).length=l.length:=by simp [natI]
theorem vN {l:List Nat} {k:Nat} (h:k<l.length):(natI l)[k]'(by simpa [natI]using h)=(l[k]:Int):=by simp [natI]
def aC (ts:List Ten):Osd:=⟨ts.map Ten.labels,List.replicate ts.length false⟩
structure OsOk (s:Osd) (m:Nat):Prop where
 gl:s.gone.length=s.all.length
 lab:∀ l∈s.all,l.Nodup∧∀ x∈l,0≤x∧x≤99
 n:s.all.length=m
section
variable {s : Osd} {os : List Int} {a b m : Nat}
theorem OsOk.at (h:OsOk s m) (i:Nat):(s.lab i).Nodup∧∀ x∈s.lab i,0≤x∧x≤99:=by
 unfold Osd.lab
 by_cases hi:i<s.all.length
 ·rw[zq,zg hi];exact h.lab _ (List.getElem_mem hi)
 ·rw[zq,List.getElem?_eq_none (by omega)];simp
theorem OsOk.len (h:OsOk s m) (i:Nat):(s.lab i).length≤100:=xP (h.at i).1 (h.at i).2
theorem OsOk.join (h:OsOk s m) (a b:Nat):(ao (s.lab a) (s.lab b)).Nodup∧(∀ x∈ao (s.lab a) (s.lab b),0≤x∧x≤99)∧(ao (s.lab a) (s.lab b)).length≤100:=by
 have h1:=uh (h.at a).1 (h.at b).1
 have h2:∀ x∈ao (s.lab a) (s.lab b),0≤x∧x≤99:=fun x hx=>(bc.1 hx).elim ((h.at a).2 x) ((h.at b).2 x)
 exact⟨h1,h2,xP h1 h2⟩
theorem OsOk.res (h:OsOk s m) (os:List Int) (a b:Nat):(s.res os a b).Nodup∧∀ x∈s.res os a b,0≤x∧x≤99:=
 ⟨(h.join a b).1.filter _,fun x hx=>(h.join a b).2.1 x (List.mem_filter.1 hx).1⟩
theorem OsOk.step (h:OsOk s m) (os:List Int) (a b:Nat):OsOk (s.step os a b) (m+1):=by
 refine⟨by simp [Osd.step,h.gl],fun l hl=> ?_,by simp [Osd.step,h.n]⟩
 simp only[Osd.step,List.mem_append,List.mem_singleton]at hl
 rcases hl with hl | rfl
 ·exact h.lab l hl
 ·exact h.res os a b
theorem pV {ts:List Ten} (h:d7 ts):OsOk (aC ts) ts.length:=by
 refine⟨by simp [aC],fun l hl=> ?_,by simp [aC]⟩
 simp only[aC,List.mem_map]at hl
 obtain⟨t,ht,rfl⟩:=hl
 refine⟨bI (h t ht),fun x hx=> ?_⟩
 obtain⟨k,hk,rfl⟩:=List.mem_iff_getElem.1 hx
 have:=(h t ht).2.2 k hk
 unfold axAt at this
 rw[ae hk]at this
 omega
theorem jc (s:Osd):s.nums.Nodup:=List.nodup_range.filter _
theorem gM {i:Nat}:i∈s.nums↔i<s.all.length∧s.gone.getD i true=false:=by
 simp [Osd.nums,Osd.alive]
theorem jd (h:OsOk s m):s.nums.length≤m:=by
 have:=List.length_filter_le s.alive (List.range s.all.length)
 rw[List.length_range]at this
 exact Nat.le_trans this (Nat.le_of_eq h.n)
theorem n7 (h:OsOk s m) {i:Nat} (hi:i<m):(s.step os a b).alive i=(Osd.off a b i&&s.alive i):=by
 have hg:=h.gl
 have hn:=h.n
 have hi':i<s.gone.length:=by omega
 unfold Osd.alive Osd.step Osd.off
 simp only
 rw[zq,zq,List.getElem?_append_left (by simpa using hi'),List.getElem?_set,List.getElem?_set,zg hi']
 by_cases e1:b=i
 ·subst e1;simp [hi']
 ·have e1':(i==b)=false:=by simp;exact fun e=>e1 e.symm
  rw[if_neg e1]
  by_cases e2:a=i
  ·subst e2;simp [hi']
  ·have e2':(i==a)=false:=by simp;exact fun e=>e2 e.symm
   rw[if_neg e2]
   simp [e1',e2',bne]
theorem eH (h:OsOk s m):(s.step os a b).nums=s.nums.filter (Osd.off a b)++[m]:=by
 have hn:=h.n
 have e1:(s.step os a b).all.length=m+1:=by simp [Osd.step,hn]
 unfold Osd.nums
 rw[e1,hn,List.range_succ,List.filter_append,List.filter_filter]
 congr 1
 ·exact List.filter_congr fun i hi=>n7 h (by simpa using hi)
 ·have:(s.step os a b).alive m=true:=by
   unfold Osd.alive Osd.step
   simp only
   rw[zq,List.getElem?_append_right (by simp [h.gl,hn])]
   simp [h.gl,hn]
  simp [this]
theorem ot (h:OsOk s m) {i:Nat} (hi:i<m):(s.step os a b).lab i=s.lab i:=by
 unfold Osd.lab Osd.step
 simp only
 rw[zq,List.getElem?_append_left (by rw[h.n];exact hi), ← zq]
theorem dP (h:OsOk s m):(s.step os a b).lab m=s.res os a b:=by
 unfold Osd.lab
 rw[zq,Osd.step,List.getElem?_append_right (by rw[h.n];exact Nat.le_refl _),h.n]
 simp
def oA (s:Osd) (os:List Int) (a b:Nat) (l:Int) (q:Nat):Bool:=has os l||(s.nums.take q).any fun i=>Osd.off a b i&&has (s.lab i) l
theorem vS {l:Int}:oA s os a b l 0=has os l:=by simp [oA]
theorem Em {l:Int} {q:Nat} (hq:q<s.nums.length) (h:(Osd.off a b s.nums[q]&&has (s.lab s.nums[q]) l)=true):oA s os a b l (q+1)=true:=by
 rw[oA,bb hq,List.any_append];simp [h]
theorem vT {l:Int} {q:Nat} (hq:q<s.nums.length) (h:(Osd.off a b s.nums[q]&&has (s.lab s.nums[q]) l)=false):oA s os a b l (q+1)=oA s os a b l q:=by
 rw[oA,bb hq,List.any_append];simp [h,oA]
theorem En {l:Int} {q:Nat} (hq:s.nums.length≤q):oA s os a b l q=has (s.keep os a b) l:=by
 rw[oA,zt hq,Bool.eq_iff_iff,Bool.or_eq_true,aI,aI,Osd.keep,List.mem_append,List.any_eq_true]
 refine or_congr Iff.rfl ?_
 simp only[List.mem_flatMap,List.mem_filter,Bool.and_eq_true,aI]
 exact⟨fun⟨i,h1,h2,h3⟩=>⟨i,⟨h1,h2⟩,h3⟩,fun⟨i,⟨h1,h2⟩,h3⟩=>⟨i,h1,h2,h3⟩⟩
theorem xO {l:List Nat} (hn:l.Nodup) {i j k:Nat} (hi:i<l.length) (hj:j<l.length) (hk:k<l.length):Osd.off l[i] l[j] l[k]=(k !=i&&k !=j):=by
 have e:∀ u (hu:u<l.length),(l[k] !=l[u])=(k !=u):=fun u hu=>by
  by_cases e:k=u
  ·subst e;simp
  ·have:l[k]≠l[u]:=fun e2=>e ((List.getElem_inj hn).1 e2)
   show (!(l[k]==l[u]))=(!(k==u))
   rw[beq_eq_false_iff_ne.2 this,beq_eq_false_iff_ne.2 e]
 unfold Osd.off
 rw[e i hi,e j hj]
def dQ (s:Osd) (a b:Int):Bool:=decide (a∈natI s.nums∧b∈natI s.nums∧a<b)
def bL (os F:List Int) (s:Osd):Nat→Osd × Bool
 | 0=>(s,true)
 | k+1=>if (bL os F s k).2&&dQ (bL os F s k).1 (F.getD (k*2) 0) (F.getD (k*2+1) 0) then ((bL os F s k).1.step os (F.getD (k*2) 0).toNat (F.getD (k*2+1) 0).toNat,true) else ((bL os F s k).1,false)
theorem pW {F:List Int} {k:Nat} (h:(bL os F s k).2=true) (h2:dQ (bL os F s k).1 (F.getD (k*2) 0) (F.getD (k*2+1) 0)=true):
  bL os F s (k+1)=((bL os F s k).1.step os (F.getD (k*2) 0).toNat (F.getD (k*2+1) 0).toNat,true):=by rw[bL,h,h2];rfl
theorem FZ {F:List Int} {k:Nat} (h:(bL os F s k).2=true) (h2:dQ (bL os F s k).1 (F.getD (k*2) 0) (F.getD (k*2+1) 0)=false):(bL os F s (k+1)).2=false:=by rw[bL,h,h2];rfl
theorem vF {F:List Int} {k:Nat} (h:(bL os F s k).2=false):∀ d,(bL os F s (k+d)).2=false
 | 0=>h
 | d+1=>by rw[← Nat.add_assoc,bL,vF h d];rfl
theorem j8 {F:List Int} {n:Nat} (h:(bL os F s n).2=true) {k:Nat} (hk:k≤n):(bL os F s k).2=true:=by
 cases e:(bL os F s k).2
 ·obtain⟨d,rfl⟩:∃ d,n=k+d:=⟨n-k,by omega⟩
  rw[vF e d]at h;cases h
 ·rfl
theorem lK {F:List Int} {n:Nat} (h:(bL os F s n).2=true) {k:Nat} (hk:k<n):dQ (bL os F s k).1 (F.getD (k*2) 0) (F.getD (k*2+1) 0)=true:=by
 cases e:dQ (bL os F s k).1 (F.getD (k*2) 0) (F.getD (k*2+1) 0)
 ·have:=FZ (j8 h (Nat.le_of_lt hk)) e
  rw[j8 h hk]at this;cases this
 ·rfl
theorem rC {F:List Int} (h:OsOk s m):∀ k,(bL os F s k).2=true→OsOk (bL os F s k).1 (m+k)
 | 0,_=>h
 | k+1,hk=>by
  have h1:=j8 hk (Nat.le_succ k)
  have h2:=lK hk (Nat.lt_succ_self k)
  rw[pW h1 h2]
  exact(rC h k h1).step os _ _
theorem oH {x y:Int} (h:dQ s x y=true):∃ a b:Nat,x=a∧y=b∧a∈s.nums∧b∈s.nums∧a<b:=by
 obtain⟨h1,h2,h3⟩:=zd h
 obtain⟨a,ha,rfl⟩:=lL.1 h1
 obtain⟨b,hb,rfl⟩:=lL.1 h2
 exact⟨a,b,rfl,rfl,ha,hb,by omega⟩
noncomputable def aX (N:Net) (n:Nat) (F:List Int):Bool:=bp N&&decide (n=N.ts.length-1)&&(bL N.os F (aC N.ts) n).2
theorem aR {N:Net} {n:Nat} {F:List Int}:aX N n F=true↔bp N=true∧n=N.ts.length-1∧(bL N.os F (aC N.ts) n).2=true:=by
 simp only[aX,Bool.and_eq_true,decide_eq_true_eq,and_assoc]
def ordS (N:Net) (F:List Int) (k:Nat):Osd:=(bL N.os F (aC N.ts) k).1
end
end Go.Proofs.YtjfmckhbmdjnpaaGreat
