/-
 Contracts: what the laws' own helpers do with networks. No condition.
-/
import Derived.Test.YtobhmajhachnaaaGreatDoorMgJobsA
import Derived.Test.YtobhmajhachnaaaGreatDoorNetA
import Derived.Test.YtobhmajhachnaaaGreatDoorCoB
import Derived.Test.YtobhmajhachnaaaGreatDoorPlN
set_option linter.unusedSimpArgs false
set_option linter.unusedVariables false
namespace Go.Proofs.YtobhmajhachnaaaGreatDoor
open Go.RowKit Go.Lift Plain
set_option maxRecDepth 100000
structure NSz(m:Nat)(N:Net):Prop where
 k:I64 N.k
 p:I64 N.p
 n:I64 N.n
 l:N.ts.length≤m
 t:∀t∈N.ts,TSz m t
 o:Sz m N.os
def lenT(t:Ten):Nat:=t.labels.length+t.dims.length+t.data.length
def totT:List Ten→Nat
 | []=>0
 |t :: l=>lenT t+totT l
section
variable {ts : List Ten} {k : Nat}
theorem F5(hk:k≤ts.length):(tcA (ts.take k)).length=k*3:=by rw[pZ,List.length_take];congr 1;omega
end
theorem eI(xs:List Int):treL (iv xs)=some (dv xs):=by
 induction xs with
 |nil=>rfl
 |cons x l ih=>simp only[iv,dv,List.map_cons,treL,treD]at ih ⊢;rw[ih]
end Go.Proofs.YtobhmajhachnaaaGreatDoor
namespace Go.Proofs.YtobhmajhachnaaaGreatDoor
open Go.RowKit Go.Lift Go.ChangeShapes Go.WideShapes Plain
set_option maxRecDepth 100000
structure NetIn(w:World)(v:Value)(N:Net):Prop where
 rel:Rel w (topL w) id (at_ []) (netA N) v
 sz:NSz 9223372036854775807 N
section
variable {H : Type} {enc : TypeId × Value → H} {w : World} {base : Nat} {held : Bool} {r : Reach}
end
end Go.Proofs.YtobhmajhachnaaaGreatDoor
namespace Go.Proofs.YtobhmajhachnaaaGreatDoor
open Plain
structure Osd where
 all:List (List Int)
 gone:List Bool
namespace Osd
def alive(s:Osd)(i:Nat):Bool:= !(s.gone.getD i true)
def nums(s:Osd):List Nat:=(List.range s.all.length).filter s.alive
def lab(s:Osd)(i:Nat):List Int:=s.all.getD i []
def off(a b:Nat)(i:Nat):Bool:=i !=a&&i !=b
def keep(s:Osd)(os:List Int)(a b:Nat):List Int:=os++(s.nums.filter (off a b)).flatMap s.lab
def res(s:Osd)(os:List Int)(a b:Nat):List Int:=(aF (s.lab a) (s.lab b)).filter (has (s.keep os a b))
def step(s:Osd)(os:List Int)(a b:Nat):Osd:=⟨s.all++[s.res os a b],(s.gone.set a true).set b true++[false]⟩
end Osd
def natI(l:List Nat):List Int:=l.map fun (i:Nat)=>(i:Int)
theorem lZ{l:List Nat}{x:Int}:x∈natI l↔∃i:Nat,i∈l∧x=i:=by
 simp only[natI,List.mem_map];exact⟨fun⟨i,h,e⟩=>⟨i,h,e.symm⟩,fun⟨i,h,e⟩=>⟨i,h,e.symm⟩⟩
theorem rl{l:List Nat}(h:l.Nodup):(natI l).Nodup:=List.pairwise_map.2 (h.imp fun hne e=>hne (Int.ofNat.inj e))
theorem wZ(l:List Nat):(natI l).length=l.length:=by simp [natI]
theorem sv{l:List Nat}{k:Nat}(h:k<l.length):(natI l)[k]'(by simpa [natI]using h)=(l[k]:Int):=by simp [natI]
def bb(ts:List Ten):Osd:=⟨ts.map Ten.labels,List.replicate ts.length false⟩
structure OsOk(s:Osd)(m:Nat):Prop where
 gl:s.gone.length=s.all.length
 lab:∀l∈s.all,l.Nodup∧∀x∈l,0≤x∧x≤99
 n:s.all.length=m
section
variable {s : Osd} {os : List Int} {a b m : Nat}
theorem OsOk.at(h:OsOk s m)(i:Nat):(s.lab i).Nodup∧∀x∈s.lab i,0≤x∧x≤99:=by
 unfold Osd.lab;by_cases hi:i<s.all.length
 ·rw[zq,zg hi];exact h.lab _ (List.getElem_mem hi)
 ·rw[zq,List.getElem?_eq_none (by omega)];simp
theorem OsOk.len(h:OsOk s m)(i:Nat):(s.lab i).length≤100:=ud (h.at i).1 (h.at i).2
theorem OsOk.join(h:OsOk s m)(a b:Nat):(aF (s.lab a) (s.lab b)).Nodup∧(∀x∈aF (s.lab a) (s.lab b),0≤x∧x≤99)∧(aF (s.lab a) (s.lab b)).length≤100:=by
 have h1:=Cn (h.at a).1 (h.at b).1;have h2:∀x∈aF (s.lab a) (s.lab b),0≤x∧x≤99:=fun x hx=>(bm.1 hx).elim ((h.at a).2 x) ((h.at b).2 x)
 exact⟨h1,h2,ud h1 h2⟩
theorem OsOk.res(h:OsOk s m)(os:List Int)(a b:Nat):(s.res os a b).Nodup∧∀x∈s.res os a b,0≤x∧x≤99:=
 ⟨(h.join a b).1.filter _,fun x hx=>(h.join a b).2.1 x (List.mem_filter.1 hx).1⟩
theorem OsOk.step(h:OsOk s m)(os:List Int)(a b:Nat):OsOk (s.step os a b) (m+1):=by
 refine⟨by simp [Osd.step,h.gl],fun l hl=> ?_,by simp [Osd.step,h.n]⟩;simp only[Osd.step,List.mem_append,List.mem_singleton]at hl;rcases hl with hl|rfl
 ·exact h.lab l hl
 ·exact h.res os a b
theorem lV{ts:List Ten}(h:cQ ts):OsOk (bb ts) ts.length:=by
 refine⟨by simp [bb],fun l hl=> ?_,by simp [bb]⟩;simp only[bb,List.mem_map]at hl;obtain⟨t,ht,rfl⟩:=hl;refine⟨bE (h t ht),fun x hx=> ?_⟩;obtain⟨k,hk,rfl⟩:=List.mem_iff_getElem.1 hx;have:=(h t ht).2.2 k hk;unfold axAt at this;rw[ac hk]at this;omega
theorem dL(s:Osd):s.nums.Nodup:=List.nodup_range.filter _
theorem eC{i:Nat}:i∈s.nums↔i<s.all.length∧s.gone.getD i true=false:=by
 simp [Osd.nums,Osd.alive]
theorem lX(h:OsOk s m):s.nums.length≤m:=by
 have:=List.length_filter_le s.alive (List.range s.all.length);rw[List.length_range]at this;exact Nat.le_trans this (Nat.le_of_eq h.n)
theorem DZ(h:OsOk s m){i:Nat}(hi:i<m):(s.step os a b).alive i=(Osd.off a b i&&s.alive i):=by
 have hg:=h.gl;have hn:=h.n;have hi':i<s.gone.length:=by omega
 unfold Osd.alive Osd.step Osd.off;simp only;rw[zq,zq,List.getElem?_append_left (by simpa using hi'),List.getElem?_set,List.getElem?_set,zg hi'];by_cases e1:b=i
 ·subst e1;simp [hi']
 ·have e1':(i==b)=false:=by simp;exact fun e=>e1 e.symm
  rw[if_neg e1];by_cases e2:a=i
  ·subst e2;simp [hi']
  ·have e2':(i==a)=false:=by simp;exact fun e=>e2 e.symm
   rw[if_neg e2];simp [e1',e2',bne]
theorem fU(h:OsOk s m):(s.step os a b).nums=s.nums.filter (Osd.off a b)++[m]:=by
 have hn:=h.n;have e1:(s.step os a b).all.length=m+1:=by simp [Osd.step,hn]
 unfold Osd.nums;rw[e1,hn,List.range_succ,List.filter_append,List.filter_filter]
 congr 1
 ·exact List.filter_congr fun i hi=>DZ h (by simpa using hi)
 ·have:(s.step os a b).alive m=true:=by
   unfold Osd.alive Osd.step;simp only;rw[zq,List.getElem?_append_right (by simp [h.gl,hn])];simp [h.gl,hn]
  simp [this]
theorem sC(h:OsOk s m){i:Nat}(hi:i<m):(s.step os a b).lab i=s.lab i:=by
 unfold Osd.lab Osd.step;simp only;rw[zq,List.getElem?_append_left (by rw[h.n];exact hi), ← zq]
theorem iz(h:OsOk s m):(s.step os a b).lab m=s.res os a b:=by
 unfold Osd.lab;rw[zq,Osd.step,List.getElem?_append_right (by rw[h.n];exact Nat.le_refl _),h.n]
 simp
def oL(s:Osd)(os:List Int)(a b:Nat)(l:Int)(q:Nat):Bool:=has os l||(s.nums.take q).any fun i=>Osd.off a b i&&has (s.lab i) l
theorem x8{l:Int}:oL s os a b l 0=has os l:=by simp [oL]
theorem FM{l:Int}{q:Nat}(hq:q<s.nums.length)(h:(Osd.off a b s.nums[q]&&has (s.lab s.nums[q]) l)=true):oL s os a b l (q+1)=true:=by
 rw[oL,ba hq,List.any_append];simp [h]
theorem x9{l:Int}{q:Nat}(hq:q<s.nums.length)(h:(Osd.off a b s.nums[q]&&has (s.lab s.nums[q]) l)=false):oL s os a b l (q+1)=oL s os a b l q:=by
 rw[oL,ba hq,List.any_append];simp [h,oL]
theorem FN{l:Int}{q:Nat}(hq:s.nums.length≤q):oL s os a b l q=has (s.keep os a b) l:=by
 rw[oL,zt hq,Bool.eq_iff_iff,Bool.or_eq_true,aQ,aQ,Osd.keep,List.mem_append,List.any_eq_true];refine or_congr Iff.rfl ?_;simp only[List.mem_flatMap,List.mem_filter,Bool.and_eq_true,aQ];exact⟨fun⟨i,h1,h2,h3⟩=>⟨i,⟨h1,h2⟩,h3⟩,fun⟨i,⟨h1,h2⟩,h3⟩=>⟨i,h1,h2,h3⟩⟩
theorem uc{l:List Nat}(hn:l.Nodup){i j k:Nat}(hi:i<l.length)(hj:j<l.length)(hk:k<l.length):Osd.off l[i] l[j] l[k]=(k !=i&&k !=j):=by
 have e:∀u (hu:u<l.length),(l[k] !=l[u])=(k !=u):=fun u hu=>by
  by_cases e:k=u
  ·subst e;simp
  ·have:l[k]≠l[u]:=fun e2=>e ((List.getElem_inj hn).1 e2)
   show (!(l[k]==l[u]))=(!(k==u))
   rw[beq_eq_false_iff_ne.2 this,beq_eq_false_iff_ne.2 e]
 unfold Osd.off;rw[e i hi,e j hj]
def dj(s:Osd)(a b:Int):Bool:=decide (a∈natI s.nums∧b∈natI s.nums∧a<b)
def bj(os F:List Int)(s:Osd):Nat→Osd × Bool
 |0=>(s,true)
 |k+1=>if (bj os F s k).2&&dj (bj os F s k).1 (F.getD (k*2) 0) (F.getD (k*2+1) 0) then ((bj os F s k).1.step os (F.getD (k*2) 0).toNat (F.getD (k*2+1) 0).toNat,true) else ((bj os F s k).1,false)
theorem q9{F:List Int}{k:Nat}(h:(bj os F s k).2=true)(h2:dj (bj os F s k).1 (F.getD (k*2) 0) (F.getD (k*2+1) 0)=true):
  bj os F s (k+1)=((bj os F s k).1.step os (F.getD (k*2) 0).toNat (F.getD (k*2+1) 0).toNat,true):=by rw[bj,h,h2];rfl
theorem Hw{F:List Int}{k:Nat}(h:(bj os F s k).2=true)(h2:dj (bj os F s k).1 (F.getD (k*2) 0) (F.getD (k*2+1) 0)=false):(bj os F s (k+1)).2=false:=by rw[bj,h,h2];rfl
theorem wT{F:List Int}{k:Nat}(h:(bj os F s k).2=false):∀d,(bj os F s (k+d)).2=false
 |0=>h
 |d+1=>by rw[← Nat.add_assoc,bj,wT h d];rfl
theorem fS{F:List Int}{n:Nat}(h:(bj os F s n).2=true){k:Nat}(hk:k≤n):(bj os F s k).2=true:=by
 cases e:(bj os F s k).2
 ·obtain⟨d,rfl⟩:∃d,n=k+d:=⟨n-k,by omega⟩
  rw[wT e d]at h;cases h
 ·rfl
theorem lW{F:List Int}{n:Nat}(h:(bj os F s n).2=true){k:Nat}(hk:k<n):dj (bj os F s k).1 (F.getD (k*2) 0) (F.getD (k*2+1) 0)=true:=by
 cases e:dj (bj os F s k).1 (F.getD (k*2) 0) (F.getD (k*2+1) 0)
 ·have:=Hw (fS h (Nat.le_of_lt hk)) e
  rw[fS h hk]at this;cases this
 ·rfl
theorem oA{F:List Int}(h:OsOk s m):∀k,(bj os F s k).2=true→OsOk (bj os F s k).1 (m+k)
 |0,_=>h
 |k+1,hk=>by
  have h1:=fS hk (Nat.le_succ k);have h2:=lW hk (Nat.lt_succ_self k);rw[q9 h1 h2]
  exact(oA h k h1).step os _ _
theorem kJ{x y:Int}(h:dj s x y=true):∃a b:Nat,x=a∧y=b∧a∈s.nums∧b∈s.nums∧a<b:=by
 obtain⟨h1,h2,h3⟩:=zd h;obtain⟨a,ha,rfl⟩:=lZ.1 h1;obtain⟨b,hb,rfl⟩:=lZ.1 h2;exact⟨a,b,rfl,rfl,ha,hb,by omega⟩
noncomputable def bo(N:Net)(n:Nat)(F:List Int):Bool:=netOk N&&decide (n=N.ts.length-1)&&(bj N.os F (bb N.ts) n).2
theorem bc{N:Net}{n:Nat}{F:List Int}:bo N n F=true↔netOk N=true∧n=N.ts.length-1∧(bj N.os F (bb N.ts) n).2=true:=by
 simp only[bo,Bool.and_eq_true,decide_eq_true_eq,and_assoc]
def ordS(N:Net)(F:List Int)(k:Nat):Osd:=(bj N.os F (bb N.ts) k).1
end
end Go.Proofs.YtobhmajhachnaaaGreatDoor
