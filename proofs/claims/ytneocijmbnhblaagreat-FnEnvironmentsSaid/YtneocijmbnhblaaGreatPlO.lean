/-
 Plain lists: the tensors that are there while an order is followed. No condition.
-/
import Derived.Test.YtneocijmbnhblaaGreatCoB
import Derived.Test.YtneocijmbnhblaaGreatPlN
set_option linter.unusedSimpArgs false
set_option linter.unusedVariables false
namespace Go.Proofs.YtneocijmbnhblaaGreat
open Plain
structure Osd where
 all:List (List Int)
 gone:List Bool
namespace Osd
def alive (s:Osd) (i:Nat):Bool:= !(s.gone.getD i true)
def nums (s:Osd):List Nat:=(List.range s.all.length).filter s.alive
def lab (s:Osd) (i:Nat):List Int:=s.all.getD i []
def off (a b:Nat) (i:Nat):Bool:=i !=a&&i !=b
def keep (s:Osd) (os:List Int) (a b:Nat):List Int:=os++(s.nums.filter (off a b)).flatMap s.lab
def res (s:Osd) (os:List Int) (a b:Nat):List Int:=(aK (s.lab a) (s.lab b)).filter (has (s.keep os a b))
def step (s:Osd) (os:List Int) (a b:Nat):Osd:=⟨s.all++[s.res os a b],(s.gone.set a true).set b true++[false]⟩
end Osd
def natI (l:List Nat):List Int:=l.map fun (i:Nat)=>(i:Int)
theorem it {l:List Nat} {x:Int}:x∈natI l↔∃ i:Nat,i∈l∧x=i:=by
 simp only[natI,List.mem_map]
 exact⟨fun⟨i,h,e⟩=>⟨i,h,e.symm⟩,fun⟨i,h,e⟩=>⟨i,h,e.symm⟩⟩
theorem q7 {l:List Nat} (h:l.Nodup):(natI l).Nodup:=List.pairwise_map.2 (h.imp fun hne e=>hne (Int.ofNat.inj e))
theorem q8 (l:List Nat):(natI l).length=l.length:=by simp [natI]
theorem me {l:List Nat} {k:Nat} (h:k<l.length):(natI l)[k]'(by simpa [natI]using h)=(l[k]:Int):=by simp [natI]
def bc (ts:List Ten):Osd:=⟨ts.map Ten.labels,List.replicate ts.length false⟩
structure OsOk (s:Osd) (m:Nat):Prop where
 gl:s.gone.length=s.all.length
 lab:∀ l∈s.all,l.Nodup∧∀ x∈l,0≤x∧x≤99
 n:s.all.length=m
section
variable {s : Osd} {os : List Int} {a b m : Nat}
theorem OsOk.at (h:OsOk s m) (i:Nat):(s.lab i).Nodup∧∀ x∈s.lab i,0≤x∧x≤99:=by
 unfold Osd.lab
 by_cases hi:i<s.all.length
 ·rw[List.getD_eq_getElem?_getD,List.getElem?_eq_getElem hi];exact h.lab _ (List.getElem_mem hi)
 ·rw[List.getD_eq_getElem?_getD,List.getElem?_eq_none (by omega)];simp
theorem OsOk.len (h:OsOk s m) (i:Nat):(s.lab i).length≤100:=rW (h.at i).1 (h.at i).2
theorem OsOk.join (h:OsOk s m) (a b:Nat):(aK (s.lab a) (s.lab b)).Nodup∧(∀ x∈aK (s.lab a) (s.lab b),0≤x∧x≤99)∧(aK (s.lab a) (s.lab b)).length≤100:=by
 have h1:=v9 (h.at a).1 (h.at b).1
 have h2:∀ x∈aK (s.lab a) (s.lab b),0≤x∧x≤99:=fun x hx=>(aX.1 hx).elim ((h.at a).2 x) ((h.at b).2 x)
 exact⟨h1,h2,rW h1 h2⟩
theorem OsOk.res (h:OsOk s m) (os:List Int) (a b:Nat):(s.res os a b).Nodup∧∀ x∈s.res os a b,0≤x∧x≤99:=
 ⟨(h.join a b).1.filter _,fun x hx=>(h.join a b).2.1 x (List.mem_filter.1 hx).1⟩
theorem OsOk.step (h:OsOk s m) (os:List Int) (a b:Nat):OsOk (s.step os a b) (m+1):=by
 refine⟨by simp [Osd.step,h.gl],fun l hl=> ?_,by simp [Osd.step,h.n]⟩
 simp only[Osd.step,List.mem_append,List.mem_singleton]at hl
 rcases hl with hl | rfl
 ·exact h.lab l hl
 ·exact h.res os a b
theorem nl {ts:List Ten} (h:d7 ts):OsOk (bc ts) ts.length:=by
 refine⟨by simp [bc],fun l hl=> ?_,by simp [bc]⟩
 simp only[bc,List.mem_map]at hl
 obtain⟨t,ht,rfl⟩:=hl
 refine⟨bG (h t ht),fun x hx=> ?_⟩
 obtain⟨k,hk,rfl⟩:=List.mem_iff_getElem.1 hx
 have:=(h t ht).2.2 k hk
 unfold axAt at this
 rw[ao hk]at this
 omega
theorem ff (s:Osd):s.nums.Nodup:=List.nodup_range.filter _
theorem iq {i:Nat}:i∈s.nums↔i<s.all.length∧s.gone.getD i true=false:=by
 simp [Osd.nums,Osd.alive]
theorem ir (h:OsOk s m):s.nums.length≤m:=by
 have:=List.length_filter_le s.alive (List.range s.all.length)
 rw[List.length_range]at this
 exact Nat.le_trans this (Nat.le_of_eq h.n)
theorem wK (h:OsOk s m) {i:Nat} (hi:i<m):(s.step os a b).alive i=(Osd.off a b i&&s.alive i):=by
 have hg:=h.gl
 have hn:=h.n
 have hi':i<s.gone.length:=by omega
 unfold Osd.alive Osd.step Osd.off
 simp only
 rw[List.getD_eq_getElem?_getD,List.getD_eq_getElem?_getD,List.getElem?_append_left (by simpa using hi'),List.getElem?_set,List.getElem?_set,List.getElem?_eq_getElem hi']
 by_cases e1:b=i
 ·subst e1;simp [hi']
 ·have e1':(i==b)=false:=by simp;exact fun e=>e1 e.symm
  rw[if_neg e1]
  by_cases e2:a=i
  ·subst e2;simp [hi']
  ·have e2':(i==a)=false:=by simp;exact fun e=>e2 e.symm
   rw[if_neg e2]
   simp [e1',e2',bne]
theorem fX (h:OsOk s m):(s.step os a b).nums=s.nums.filter (Osd.off a b)++[m]:=by
 have hn:=h.n
 have e1:(s.step os a b).all.length=m+1:=by simp [Osd.step,hn]
 unfold Osd.nums
 rw[e1,hn,List.range_succ,List.filter_append,List.filter_filter]
 congr 1
 ·exact List.filter_congr fun i hi=>wK h (by simpa using hi)
 ·have:(s.step os a b).alive m=true:=by
   unfold Osd.alive Osd.step
   simp only
   rw[List.getD_eq_getElem?_getD,List.getElem?_append_right (by simp [h.gl,hn])]
   simp [h.gl,hn]
  simp [this]
theorem ml (h:OsOk s m) {i:Nat} (hi:i<m):(s.step os a b).lab i=s.lab i:=by
 unfold Osd.lab Osd.step
 simp only
 rw[List.getD_eq_getElem?_getD,List.getElem?_append_left (by rw[h.n];exact hi), ← List.getD_eq_getElem?_getD]
theorem fT (h:OsOk s m):(s.step os a b).lab m=s.res os a b:=by
 unfold Osd.lab
 rw[List.getD_eq_getElem?_getD,Osd.step,List.getElem?_append_right (by rw[h.n];exact Nat.le_refl _),h.n]
 simp
def jT (s:Osd) (os:List Int) (a b:Nat) (l:Int) (q:Nat):Bool:=has os l||(s.nums.take q).any fun i=>Osd.off a b i&&has (s.lab i) l
theorem qf {l:Int}:jT s os a b l 0=has os l:=by simp [jT]
theorem yu {l:Int} {q:Nat} (hq:q<s.nums.length) (h:(Osd.off a b s.nums[q]&&has (s.lab s.nums[q]) l)=true):jT s os a b l (q+1)=true:=by
 rw[jT,bm hq,List.any_append];simp [h]
theorem qg {l:Int} {q:Nat} (hq:q<s.nums.length) (h:(Osd.off a b s.nums[q]&&has (s.lab s.nums[q]) l)=false):jT s os a b l (q+1)=jT s os a b l q:=by
 rw[jT,bm hq,List.any_append];simp [h,jT]
theorem yv {l:Int} {q:Nat} (hq:s.nums.length≤q):jT s os a b l q=has (s.keep os a b) l:=by
 rw[jT,List.take_of_length_le hq,Bool.eq_iff_iff,Bool.or_eq_true,ba,ba,Osd.keep,List.mem_append,List.any_eq_true]
 refine or_congr Iff.rfl ?_
 simp only[List.mem_flatMap,List.mem_filter,Bool.and_eq_true,ba]
 exact⟨fun⟨i,h1,h2,h3⟩=>⟨i,⟨h1,h2⟩,h3⟩,fun⟨i,⟨h1,h2⟩,h3⟩=>⟨i,h1,h2,h3⟩⟩
theorem nq {l:List Nat} (hn:l.Nodup) {i j k:Nat} (hi:i<l.length) (hj:j<l.length) (hk:k<l.length):Osd.off l[i] l[j] l[k]=(k !=i&&k !=j):=by
 have e:∀ u (hu:u<l.length),(l[k] !=l[u])=(k !=u):=fun u hu=>by
  by_cases e:k=u
  ·subst e;simp
  ·have:l[k]≠l[u]:=fun e2=>e ((List.getElem_inj hn).1 e2)
   show (!(l[k]==l[u]))=(!(k==u))
   rw[beq_eq_false_iff_ne.2 this,beq_eq_false_iff_ne.2 e]
 unfold Osd.off
 rw[e i hi,e j hj]
def dN (s:Osd) (a b:Int):Bool:=decide (a∈natI s.nums∧b∈natI s.nums∧a<b)
def cf (os F:List Int) (s:Osd):Nat→Osd × Bool
 | 0=>(s,true)
 | k+1=>if (cf os F s k).2&&dN (cf os F s k).1 (F.getD (k*2) 0) (F.getD (k*2+1) 0) then ((cf os F s k).1.step os (F.getD (k*2) 0).toNat (F.getD (k*2+1) 0).toNat,true) else ((cf os F s k).1,false)
theorem kC {F:List Int} {k:Nat} (h:(cf os F s k).2=true) (h2:dN (cf os F s k).1 (F.getD (k*2) 0) (F.getD (k*2+1) 0)=true):
  cf os F s (k+1)=((cf os F s k).1.step os (F.getD (k*2) 0).toNat (F.getD (k*2+1) 0).toNat,true):=by rw[cf,h,h2];rfl
theorem zZ {F:List Int} {k:Nat} (h:(cf os F s k).2=true) (h2:dN (cf os F s k).1 (F.getD (k*2) 0) (F.getD (k*2+1) 0)=false):(cf os F s (k+1)).2=false:=by rw[cf,h,h2];rfl
theorem pZ {F:List Int} {k:Nat} (h:(cf os F s k).2=false):∀ d,(cf os F s (k+d)).2=false
 | 0=>h
 | d+1=>by rw[← Nat.add_assoc,cf,pZ h d];rfl
theorem iX {F:List Int} {n:Nat} (h:(cf os F s n).2=true) {k:Nat} (hk:k≤n):(cf os F s k).2=true:=by
 cases e:(cf os F s k).2
 ·obtain⟨d,rfl⟩:∃ d,n=k+d:=⟨n-k,by omega⟩
  rw[pZ e d]at h;cases h
 ·rfl
theorem nm {F:List Int} {n:Nat} (h:(cf os F s n).2=true) {k:Nat} (hk:k<n):dN (cf os F s k).1 (F.getD (k*2) 0) (F.getD (k*2+1) 0)=true:=by
 cases e:dN (cf os F s k).1 (F.getD (k*2) 0) (F.getD (k*2+1) 0)
 ·have:=zZ (iX h (Nat.le_of_lt hk)) e
  rw[iX h hk]at this;cases this
 ·rfl
theorem pY {F:List Int} (h:OsOk s m):∀ k,(cf os F s k).2=true→OsOk (cf os F s k).1 (m+k)
 | 0,_=>h
 | k+1,hk=>by
  have h1:=iX hk (Nat.le_succ k)
  have h2:=nm hk (Nat.lt_succ_self k)
  rw[kC h1 h2]
  exact(pY h k h1).step os _ _
theorem oF {x y:Int} (h:dN s x y=true):∃ a b:Nat,x=a∧y=b∧a∈s.nums∧b∈s.nums∧a<b:=by
 obtain⟨h1,h2,h3⟩:=of_decide_eq_true h
 obtain⟨a,ha,rfl⟩:=it.1 h1
 obtain⟨b,hb,rfl⟩:=it.1 h2
 exact⟨a,b,rfl,rfl,ha,hb,by omega⟩
noncomputable def cn (N:Net) (n:Nat) (F:List Int):Bool:=br N&&decide (n=N.ts.length-1)&&(cf N.os F (bc N.ts) n).2
theorem bC {N:Net} {n:Nat} {F:List Int}:cn N n F=true↔br N=true∧n=N.ts.length-1∧(cf N.os F (bc N.ts) n).2=true:=by
 simp only[cn,Bool.and_eq_true,decide_eq_true_eq,and_assoc]
def ordS (N:Net) (F:List Int) (k:Nat):Osd:=(cf N.os F (bc N.ts) k).1
end
end Go.Proofs.YtneocijmbnhblaaGreat
