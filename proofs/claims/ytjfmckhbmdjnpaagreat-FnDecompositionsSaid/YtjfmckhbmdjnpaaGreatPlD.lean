/-
 Plain: decompositions: bags, homes, tops. No condition.
-/
import Derived.Test.YtjfmckhbmdjnpaaGreatEliA
import Derived.Test.YtjfmckhbmdjnpaaGreatNetC
set_option linter.unusedSimpArgs false
set_option linter.unusedVariables false
namespace Go.Proofs.YtjfmckhbmdjnpaaGreat
open Go.RowKit Go.Lift Plain
set_option maxRecDepth 100000
def allL (a b:List Int):Bool:=decide (∀ x∈a,x∈b)
def bZ (B:List (List Int)) (l:List Int):Int:=match B.findIdx? (allL l)with
 | some k=>(k:Int)
 | none=> -1
theorem fr {L:List (List Int)} {k:Nat} (h:k<L.length):L.getD k []=L[k]:=by simp [zq,zg h]
section
variable {B : List (List Int)} {P : List Int} {ts : List Ten} {l : List Int} {x : Int} {n k : Nat}
theorem CP (hk:k<B.length) (h:allL l B[k]=true) (hb:∀ j (hj:j<B.length),j<k→allL l B[j]=false):bZ B l=k:=by
 have:B.findIdx? (allL l)=some k:=by
  rw[List.findIdx?_eq_some_iff_getElem]
  exact⟨hk,h,fun j hj=>by rw[hb j (by omega) hj];decide⟩
 rw[bZ,this]
theorem Au (hb:∀ j (hj:j<B.length),allL l B[j]=false):bZ B l= -1:=by
 have:B.findIdx? (allL l)=none:=by
  rw[List.findIdx?_eq_none_iff]
  intro b hb'
  obtain⟨j,hj,rfl⟩:=List.mem_iff_getElem.1 hb'
  exact hb j hj
 rw[bZ,this]
def Home (B:List (List Int)) (l:List Int):Prop:=∃ k,∃ hk:k<B.length,allL l B[k]=true
theorem CO (h:¬ bZ B l<0):Home B l:=by
 unfold bZ at h
 cases hf:B.findIdx? (allL l)with
 | none=>rw[hf]at h;exact absurd (by simp) h
 | some k=>
  rw[List.findIdx?_eq_some_iff_getElem]at hf
  exact⟨k,hf.1,hf.2.1⟩
theorem z7 (h:bZ B l<0):¬ Home B l:=fun⟨k,hk,hh⟩=>by
 unfold bZ at h
 cases hf:B.findIdx? (allL l)with
 | none=>
  rw[List.findIdx?_eq_none_iff]at hf
  have:=hf _ (List.getElem_mem hk)
  rw[hh]at this
  cases this
 | some k=>rw[hf]at h;simp only at h;omega
def PrOk (P:List Int) (i:Nat):Prop:=(i=0→P.getD 0 0= -1)∧(0<i→0≤P.getD i 0∧P.getD i 0<i)
def BgOk (ts:List Ten) (b:List Int):Prop:=∀ i (h:i<b.length),dimN ts b[i]≠0∧(0<i→b.getD (i-1) 0<b[i])
def BagsOk (ts:List Ten) (B:List (List Int)) (P:List Int):Prop:=(1≤B.length∧B.length≤40)∧P.length=B.length∧∀ i (h:i<B.length),PrOk P i∧BgOk ts B[i]
def topB (B:List (List Int)) (P:List Int) (x:Int) (i:Nat):Bool:=has (B.getD i []) x&&(decide (i=0)|| !has (B.getD (P.getD i 0).toNat []) x)
def bo (B:List (List Int)) (P:List Int) (x:Int):Nat→Nat
 | 0=>0
 | k+1=>bo B P x k+(if topB B P x k=true then 1 else 0)
theorem vQ (k:Nat):bo B P x k≤k:=by
 induction k with
 | zero=>exact Nat.le_refl 0
 | succ k ih=>rw[bo];split<;>omega
theorem gF (h:topB B P x k=true):bo B P x (k+1)=bo B P x k+1:=by rw[bo,if_pos h]
theorem ku (h:topB B P x k=false):bo B P x (k+1)=bo B P x k:=by rw[bo,if_neg (by rw[h];decide),Nat.add_zero]
theorem pk {j:Nat} (h:topB B P x j=true):∀ n,j<n→1≤bo B P x n
 | 0,hj=>absurd hj (Nat.not_lt_zero j)
 | n+1,hj=>by
  by_cases e:j=n
  ·subst e
   rw[gF h]
   omega
  ·have:=pk h n (by omega)
   rw[bo]
   omega
theorem Du (hP:∀ i,i<B.length→PrOk P i):∀ k (hk:k<B.length),x∈B[k]→1≤bo B P x B.length:=by
 intro k
 induction k using Nat.strongRecOn with
 | _ k ih=>
  intro hk hx
  cases ht:topB B P x k with
  | true=>exact pk ht _ hk
  | false=>
   have hp:=(hP k hk).2
   have e1:B.getD k []=B[k]:=fr hk
   have h1:has B[k] x=true:=az.2 hx
   unfold topB at ht
   rw[e1,h1,Bool.true_and,Bool.or_eq_false_iff]at ht
   have h0:k≠0:=by simpa using ht.1
   have hb:=hp (by omega)
   have hl:(P.getD k 0).toNat<k:=by omega
   have e2:B.getD (P.getD k 0).toNat []=B[(P.getD k 0).toNat]:=fr (by omega)
   rw[e2]at ht
   exact ih _ hl (by omega) (az.1 (by simpa using ht.2))
theorem dK (hax:cM ts):x∈am (labP ts) 100↔dimN ts x≠0:=by
 constructor
 ·intro h
  obtain⟨i,_,h2,rfl⟩:=u6 h
  simpa [labP]using h2
 ·intro h
  have hx:0≤x∧x≤99:=by
   by_cases hc:0≤x∧x≤99
   ·exact hc
   ·exact absurd (Fi hax hc) h
  simp only[am,List.mem_map,List.mem_filter,List.mem_range]
  refine⟨x.toNat,⟨by omega, ?_⟩,by omega⟩
  have:((x.toNat:Nat):Int)=x:=by omega
  simpa [labP,this]using h
theorem qj (h:dimN ts x≠0):∃ t∈ts,x∈t.labels:=by
 by_cases hc:∃ t∈ts,x∈t.labels
 ·exact hc
 ·exact absurd (rP fun t ht hx=>hc ⟨t,ht,hx⟩) h
end
def DecOk (N:Net) (B:List (List Int)) (P:List Int):Prop:=bn N=true∧BagsOk N.ts B P∧allL N.os (B.getD 0 [])=true∧(∀ t∈N.ts,Home B t.labels)∧∀ x∈am (labP N.ts) 100,bo B P x B.length≤1
open Classical in
noncomputable def decB (N:Net) (B:List (List Int)) (P:List Int):Bool:=decide (DecOk N B P)
open Classical in
theorem vb {N:Net} {B:List (List Int)} {P:List Int} (h:DecOk N B P):decB N B P=true:=decide_eq_true h
open Classical in
theorem qK {N:Net} {B:List (List Int)} {P:List Int} (h:¬ DecOk N B P):decB N B P=false:=decide_eq_false h
open Classical in
noncomputable def kP (ts:List Ten) (B:List (List Int)) (P:List Int):Bool:=decide (BagsOk ts B P)
open Classical in
theorem rW {ts:List Ten} {B:List (List Int)} {P:List Int} (h:BagsOk ts B P):kP ts B P=true:=decide_eq_true h
open Classical in
theorem kO {ts:List Ten} {B:List (List Int)} {P:List Int} (h:¬ BagsOk ts B P):kP ts B P=false:=decide_eq_false h
theorem Dh {ts:List Ten} {B:List (List Int)} {P:List Int}:kP ts B P=true↔BagsOk ts B P:=by
 constructor
 ·intro h
  by_cases hc:BagsOk ts B P
  ·exact hc
  ·rw[kO hc]at h;cases h
 ·exact rW
theorem Dv {N:Net} {B:List (List Int)} {P:List Int} (hb:BagsOk N.ts B P) (hh:∀ t∈N.ts,Home B t.labels) {x:Int} (hx:dimN N.ts x≠0):1≤bo B P x B.length:=by
 obtain⟨t,ht,hxt⟩:=qj hx
 obtain⟨k,hk,ha⟩:=hh t ht
 exact Du (fun i hi=>(hb.2.2 i hi).1) k hk (zd ha x hxt)
structure DSz (m:Nat) (B:List (List Int)) (P:List Int):Prop where
 b:B.length≤m
 e:∀ b∈B,Sz m b
 p:Sz m P
def decA (B:List (List Int)) (P:List Int):AV:=.agg [.d (lists B),.d (ints P)]
attribute [go_sem] decA
set_option maxRecDepth 100000
theorem BL (n:Nat):Go.Lift.bA n [.nil]=List.replicate n .nil:=by
 induction n with
 | zero=>rfl
 | succ n ih=>rw[zP,ih,List.replicate_succ];rfl
section
variable {L : List (List Int)} {k : Nat}
end
set_option maxRecDepth 100000
theorem K4 {p:Nat→Prop} (h:∃ n,p n):∃ n,p n∧∀ j,j<n→¬ p j:=by
 obtain⟨n,hn⟩:=h
 induction n using Nat.strongRecOn with
 | _ n ih=>
  by_cases hc:∃ j,j<n∧p j
  ·obtain⟨j,h1,h2⟩:=hc
   exact ih j h1 h2
  ·exact⟨n,hn,fun j hj h=>hc ⟨j,hj,h⟩⟩
theorem Ae {l:List Int} (h:l.Nodup) {i j:Nat} {hi:i<l.length} {hj:j<l.length} (e:l[i]=l[j]):i=j:=by
 have hp:=List.pairwise_iff_getElem.1 h
 rcases Nat.lt_trichotomy i j with h1 | h1 | h1
 ·exact absurd e (hp i j hi hj h1)
 ·exact h1
 ·exact absurd e.symm (hp j i hj hi h1)
section
variable {L : List (List Int)} {xs : List Int} {x y : Int} {k : Nat}
theorem ug:∀ k,k≤L.length→(x∈d9 L y k↔∃ l∈L.take k,y∈l∧x∈l)
 | 0,_=>by simp [d9]
 | k+1,hk=>by
  have ih:=ug k (by omega)
  have hl:k<L.length:=by omega
  rw[bb hl]
  cases hh:has L[k] y
  ·rw[rV hl hh,ih]
   have hn:=aT.1 hh
   constructor
   ·rintro⟨l,h1,h2,h3⟩;exact⟨l,List.mem_append_left _ h1,h2,h3⟩
   ·rintro⟨l,h1,h2,h3⟩
    rcases List.mem_append.1 h1 with h | h
    ·exact⟨l,h,h2,h3⟩
    ·rw[List.mem_singleton]at h;subst h;exact absurd h2 hn
  ·rw[pP hl hh,ba,ih]
   have hy:=az.1 hh
   constructor
   ·rintro (⟨l,h1,h2,h3⟩ | h)
    ·exact⟨l,List.mem_append_left _ h1,h2,h3⟩
    ·exact⟨L[k],List.mem_append_right _ (List.mem_singleton.2 rfl),hy,h⟩
   ·rintro⟨l,h1,h2,h3⟩
    rcases List.mem_append.1 h1 with h | h
    ·exact .inl ⟨l,h,h2,h3⟩
    ·rw[List.mem_singleton]at h;subst h;exact .inr h3
theorem lr:x∈i5 L y↔∃ l∈L,y∈l∧x∈l:=by
 rw[i5,ug _ (Nat.le_refl _),List.take_length]
theorem rf {l:List Int}:l∈kL L y↔(l∈L∧y∉l)∨l=(i5 L y).filter (· !=y):=by
 rw[kL,List.mem_append,dF,List.take_length,List.mem_filter,List.mem_singleton,Bool.not_eq_true',aT]
def bagE (L:List (List Int)) (xs:List Int) (k:Nat):List Int:=i5 (bE L xs k) (xs.getD k 0)
theorem rJ:∀ (k:Nat) (l:List Int),l∈bE L xs k→∀ x∈l,(∃ l0∈L,x∈l0)∧∀ j,j<k→x≠xs.getD j 0
 | 0,l,h,x,hx=>⟨⟨l,h,hx⟩,fun j hj=>by omega⟩
 | k+1,l,h,x,hx=>by
  rcases rf.1 h with ⟨h1,h2⟩ | rfl
  ·obtain⟨a,b⟩:=rJ k l h1 x hx
   refine⟨a,fun j hj=> ?_⟩
   by_cases e:j=k
   ·subst e;exact fun e=>h2 (e ▸ hx)
   ·exact b j (by omega)
  ·obtain⟨h1,h2⟩:=List.mem_filter.1 hx
   obtain⟨l',h3,h4,h5⟩:=lr.1 h1
   obtain⟨a,b⟩:=rJ k l' h3 x h5
   refine⟨a,fun j hj=> ?_⟩
   by_cases e:j=k
   ·subst e;simpa using h2
   ·exact b j (by omega)
theorem n9 {l:List Int}:∀ d,l∈bE L xs k→(∀ j,k≤j→j<k+d→xs.getD j 0∉l)→l∈bE L xs (k+d)
 | 0,h,_=>h
 | d+1,h,hj=>by
  show l∈kL (bE L xs (k+d)) (xs.getD (k+d) 0)
  exact rf.2 (.inl ⟨n9 d h (fun j a b=>hj j a (by omega)),hj (k+d) (by omega) (by omega)⟩)
theorem BF (hx:x∈bagE L xs k):(∃ l0∈L,x∈l0)∧∀ j,j<k→x≠xs.getD j 0:=by
 obtain⟨l,h1,h2,h3⟩:=lr.1 hx
 exact rJ k l h1 x h3
theorem Ht (h:LOk L) (k:Nat):(bagE L xs k).Nodup:=(kN (ox h k) _ (Nat.le_refl _)).1
theorem FD (hn:xs.Nodup) {j:Nat} (hk:k<j) (hj:j<xs.length) (hm:xs.getD j 0∈bagE L xs k) (hno:∀ i,k+1≤i→i<j→xs.getD i 0∉bagE L xs k) (hx:x∈bagE L xs k) (hne:x≠xs.getD k 0):x∈bagE L xs j:=by
 have h1:(bagE L xs k).filter (· !=xs.getD k 0)∈bE L xs (k+1):=rf.2 (.inr rfl)
 have h2:=n9 (L:=L) (xs:=xs) (j-(k+1)) h1 fun i a b h=>hno i a (by omega) (List.mem_filter.1 h).1
 rw[show k+1+(j-(k+1))=j by omega]at h2
 have hjk:xs.getD j 0≠xs.getD k 0:=by
  rw[ab hj,ab (show k<xs.length by omega)]
  intro e
  have:=Ae hn e
  omega
 exact lr.2 ⟨_,h2,List.mem_filter.2 ⟨hm,by simpa using hjk⟩,List.mem_filter.2 ⟨hx,by simpa using hne⟩⟩
def lX (bag xs:List Int):Nat→Nat
 | 0=>0
 | d+1=>if has bag (xs.getD (xs.length-1-d) 0)=true then d+1 else lX bag xs d
theorem pt {bag:List Int}:∀ d,d≤xs.length→(lX bag xs d=0∧∀ j,xs.length-d≤j→j<xs.length→xs.getD j 0∉bag)∨
  (∃ j,xs.length-d≤j∧j<xs.length∧xs.getD j 0∈bag∧lX bag xs d=xs.length-j∧∀ i,xs.length-d≤i→i<j→xs.getD i 0∉bag)
 | 0,_=>.inl ⟨rfl,fun j h1 h2=>by omega⟩
 | d+1,h=>by
  have ih:=pt (bag:=bag) d (by omega)
  cases hh:has bag (xs.getD (xs.length-1-d) 0)
  ·have e:lX bag xs (d+1)=lX bag xs d:=by rw[lX,if_neg (by rw[hh];decide)]
   have hn:=aT.1 hh
   rcases ih with ⟨h1,h2⟩ | ⟨j,h1,h2,h3,h4,h5⟩
   ·refine .inl ⟨e.trans h1,fun j a b=> ?_⟩
    by_cases ej:j=xs.length-1-d
    ·subst ej;exact hn
    ·exact h2 j (by omega) b
   ·refine .inr ⟨j,by omega,h2,h3,e.trans h4,fun i a b=> ?_⟩
    by_cases ei:i=xs.length-1-d
    ·subst ei;exact hn
    ·exact h5 i (by omega) b
  ·have e:lX bag xs (d+1)=d+1:=by rw[lX,if_pos hh]
   exact .inr ⟨xs.length-1-d,by omega,by omega,az.1 hh,by omega,fun i a b=>by omega⟩
def parE (L:List (List Int)) (xs:List Int) (k:Nat):Nat:=lX (bagE L xs k) xs (xs.length-1-k)
theorem Gx (hk:k<xs.length):parE L xs k≤xs.length-1-k:=by
 unfold parE
 rcases pt (bag:=bagE L xs k) (xs:=xs) (xs.length-1-k) (by omega)with ⟨h1,_⟩ | ⟨j,h1,h2,_,h4,_⟩<;>omega
end
def srt (l:List Int):List Int:=l.mergeSort fun x y=>decide (x≤y)
theorem tP (l:List Int):(srt l).Perm l:=List.mergeSort_perm _ _
theorem fk {l:List Int} {x:Int}:x∈srt l↔x∈l:=(tP l).mem_iff
theorem li (l:List Int):(srt l).length=l.length:=(tP l).length_eq
theorem DE {l:List Int} (hn:l.Nodup):∀ i (h:i<(srt l).length),0<i→(srt l).getD (i-1) 0<(srt l)[i]:=fun i h h0=>by
 have hs:(srt l).Pairwise fun x y=>decide (x≤y)=true:=List.pairwise_mergeSort (le:=fun x y=>decide (x≤y)) (fun a b c h1 h2=>by simp only[decide_eq_true_eq]at*;omega) (fun a b=>by simp only[Bool.or_eq_true,decide_eq_true_eq];omega) l
 have hn':(srt l).Nodup:=(tP l).nodup_iff.2 hn
 rw[ab (show i-1<(srt l).length by omega)]
 have h1:=List.pairwise_iff_getElem.1 hs (i-1) i (by omega) h (by omega)
 have h2:(srt l)[i-1]≠(srt l)[i]:=fun e=>by
  have:=Ae hn' e
  omega
 simp only[decide_eq_true_eq]at h1
 omega
def cE (os:List Int) (L:List (List Int)) (xs:List Int):List (List Int):=srt os :: (List.range xs.length).map fun i=>srt (bagE L xs (xs.length-1-i))
def dQ (L:List (List Int)) (xs:List Int):List Int:= -1 :: (List.range xs.length).map fun i=>(parE L xs (xs.length-1-i):Int)
section
variable {L : List (List Int)} {xs os : List Int} {x y : Int} {k i : Nat}
theorem cz:(cE os L xs).length=xs.length+1:=by simp [cE]
theorem sA:(dQ L xs).length=xs.length+1:=by simp [dQ]
theorem pG (hi:i<xs.length):(cE os L xs).getD (i+1) []=srt (bagE L xs (xs.length-1-i)):=by
 simp [cE,zq,hi]
theorem va (hi:i<xs.length):(dQ L xs).getD (i+1) 0=(parE L xs (xs.length-1-i):Int):=by
 simp [dQ,zq,hi]
theorem wO (hk:k<xs.length):(cE os L xs).getD (xs.length-k) []=srt (bagE L xs k):=by
 have:=pG (os:=os) (L:=L) (xs:=xs) (i:=xs.length-1-k) (by omega)
 rwa [show xs.length-1-k+1=xs.length-k by omega,show xs.length-1-(xs.length-1-k)=k by omega]at this
theorem s7 {B:List (List Int)} {P:List Int}:∀ n,(∀ i,i<n→topB B P x i=false)→bo B P x n=0
 | 0,_=>rfl
 | n+1,h=>by rw[ku (h n (by omega)),s7 n fun i hi=>h i (by omega)]
theorem tJ {B:List (List Int)} {P:List Int}:∀ n,(∀ i j,i<j→j<n→topB B P x i=true→topB B P x j=true→False)→bo B P x n≤1
 | 0,_=>Nat.zero_le _
 | n+1,h=>by
  cases hh:topB B P x n
  ·rw[ku hh];exact tJ n fun i j h1 h2=>h i j h1 (by omega)
  ·rw[gF hh,s7 n fun i hi=> ?_]
   ·omega
   ·cases hi':topB B P x i
    ·rfl
    ·exact(h i n hi (by omega) hi' hh).elim
theorem Hh (hn:xs.Nodup) (hc:∀ x,(∃ l0∈L,x∈l0)→x∉xs→x∈os) (hk:k<xs.length) (hx:x∈bagE L xs k) (hne:x≠xs.getD k 0):x∈(cE os L xs).getD (parE L xs k) []:=by
 unfold parE
 rcases pt (bag:=bagE L xs k) (xs:=xs) (xs.length-1-k) (by omega)with ⟨h1,h2⟩ | ⟨j,h1,h2,h3,h4,h5⟩
 ·rw[h1]
  show x∈srt os
  rw[fk]
  obtain⟨hl,hb⟩:=BF hx
  refine hc x hl fun hm=> ?_
  obtain⟨i,hi,rfl⟩:=List.getElem_of_mem hm
  have e:=ab hi
  by_cases h:i<k
  ·exact hb i h e.symm
  by_cases h':i=k
  ·subst h';exact hne e.symm
  ·exact h2 i (by omega) hi (by rw[e];exact hx)
 ·rw[h4,wO h2,fk]
  exact FD hn (by omega) h2 h3 (fun i a b=>h5 i (by omega) b) hx hne
theorem BA (hn:xs.Nodup) (hc:∀ x,(∃ l0∈L,x∈l0)→x∉xs→x∈os) (hi:i<xs.length) (h:topB (cE os L xs) (dQ L xs) x (i+1)=true):x=xs.getD (xs.length-1-i) 0:=by
 unfold topB at h
 rw[pG hi,va hi,Bool.and_eq_true,Bool.or_eq_true,Bool.not_eq_true',aT,az,fk,decide_eq_true_eq]at h
 obtain⟨h1,h2⟩:=h
 false_or_by_contra
 rename_i hne
 rcases h2 with h2 | h2
 ·omega
 ·exact h2 (Hh hn hc (by omega) h1 hne)
end
theorem Jl {N:Net} {xs:List Int} (hok:bn N=true) (hoc:∀ t∈N.ts,∀ x∈t.labels,dimN N.ts x≠0) (hos:N.os.Nodup) (ho:∀ x∈N.os,dimN N.ts x≠0) (hn:xs.Nodup) (hx:∀ x,x∈xs↔dimN N.ts x≠0∧x∉N.os) (h6:xs.length≤39):
  DecOk N (cE N.os (labL N.ts) xs) (dQ (labL N.ts) xs):=by
 have hax:=bS hok
 have hlo:=xp hax
 have hocc:∀ x,(∃ l0∈labL N.ts,x∈l0)→dimN N.ts x≠0:=fun x ⟨l0,h1,h2⟩=>by
  obtain⟨t,ht,rfl⟩:=List.mem_map.1 h1
  exact hoc t ht _ h2
 have hc:∀ x,(∃ l0∈labL N.ts,x∈l0)→x∉xs→x∈N.os:=fun x h1 h2=>by
  false_or_by_contra
  rename_i h3
  exact h2 ((hx x).2 ⟨hocc x h1,h3⟩)
 refine⟨hok,⟨⟨by rw[cz];omega,by rw[cz];omega⟩,by rw[cz,sA],fun i hi=> ?_⟩, ?_,fun t ht=> ?_,fun x _=>tJ _ fun i j hij hj hti htj=> ?_⟩
 ·rw[cz]at hi
  cases i with
  | zero=>
   refine⟨⟨fun _=>rfl,fun h=>by omega⟩,fun i h=>⟨ho _ (fk.1 (List.getElem_mem h)),DE hos i h⟩⟩
  | succ i=>
   have hi':i<xs.length:=by omega
   have e:(cE N.os (labL N.ts) xs)[i+1]'(by rw[cz];omega)=srt (bagE (labL N.ts) xs (xs.length-1-i)):=by
    rw[← fr,pG hi']
   refine⟨⟨fun h=>by omega,fun _=> ?_⟩, ?_⟩
   ·have:=Gx (L:=labL N.ts) (xs:=xs) (k:=xs.length-1-i) (by omega)
    rw[va hi']
    omega
   ·rw[e]
    exact fun i h=>⟨hocc _ (BF (fk.1 (List.getElem_mem h))).1,DE (Ht hlo _) i h⟩
 ·exact decide_eq_true fun x hx'=>fk.2 hx'
 ·by_cases h:∃ p,p<xs.length∧xs.getD p 0∈t.labels
  ·obtain⟨p,⟨hp,hm⟩,hmin⟩:∃ p,(p<xs.length∧xs.getD p 0∈t.labels)∧∀ j,j<p→¬ (j<xs.length∧xs.getD j 0∈t.labels):=by
    exact K4 h
   have hk:=n9 (L:=labL N.ts) (xs:=xs) (k:=0) p (List.mem_map.2 ⟨t,ht,rfl⟩) fun j _ hj h'=>hmin j (by omega) ⟨by omega,h'⟩
   rw[Nat.zero_add]at hk
   refine⟨xs.length-p,by rw[cz];omega, ?_⟩
   rw[← fr,wO hp]
   exact decide_eq_true fun x hx'=>fk.2 (lr.2 ⟨_,hk,hm,hx'⟩)
  ·refine⟨0,by rw[cz];omega,decide_eq_true fun x hx'=>fk.2 (hc x ⟨_,List.mem_map.2 ⟨t,ht,rfl⟩,hx'⟩ fun hm=> ?_)⟩
   obtain⟨p,hp,rfl⟩:=List.getElem_of_mem hm
   exact h ⟨p,hp,by rw[ab hp];exact hx'⟩
 ·rw[cz]at hj
  obtain⟨j,rfl⟩:∃ j',j=j'+1:=⟨j-1,by omega⟩
  have e2:=BA hn hc (show j<xs.length by omega) htj
  rw[ab (show xs.length-1-j<xs.length by omega)]at e2
  cases i with
  | zero=>
   have h0:x∈N.os:=by
    simp only[topB,Bool.and_eq_true]at hti
    exact fk.1 (az.1 hti.1)
   have hm:=(hx x).1 (by rw[e2];exact List.getElem_mem _)
   exact hm.2 h0
  | succ i=>
   have e1:=BA hn hc (show i<xs.length by omega) hti
   rw[ab (show xs.length-1-i<xs.length by omega),e2]at e1
   have:=Ae hn e1
   omega
def maxL (z:Int) (l:List Int):Int:=l.foldl max z
theorem Cv {z:Int} {a b:List Int} (h:a.Perm b):maxL z a=maxL z b:=by
 unfold maxL
 induction h generalizing z with
 | nil=>rfl
 | cons x _ ih=>exact ih
 | swap x y l=>
  simp only[List.foldl_cons]
  congr 1
  omega
 | trans _ _ h1 h2=>exact h1.trans h2
def lenL (B:List (List Int)):List Int:=B.map fun b=>(b.length:Int)
theorem tC (L:List (List Int)) (xs:List Int):∀ k,bP L xs k=(List.range k).map fun i=>((bagE L xs i).length:Int)
 | 0=>rfl
 | k+1=>by rw[bP,tC L xs k,List.range_succ,List.map_append];rfl
theorem D6 {os xs:List Int} {L:List (List Int)}:maxL 0 (lenL (cE os L xs))=maxL (os.length:Int) (bP L xs xs.length):=by
 have h:(lenL ((List.range xs.length).map fun i=>srt (bagE L xs (xs.length-1-i)))).Perm (bP L xs xs.length):=by
  rw[tC]
  unfold lenL
  rw[List.map_map]
  have e:(List.range xs.length).map ((fun b:List Int=>(b.length:Int)) ∘ fun i=>srt (bagE L xs (xs.length-1-i)))=((List.range xs.length).map fun i=>((bagE L xs i).length:Int)).reverse:=by
   apply List.ext_getElem
   ·simp
   intro i h1 h2
   simp [li]
  rw[e]
  exact List.reverse_perm _
 show maxL 0 ((srt os).length :: lenL ((List.range xs.length).map fun i=>srt (bagE L xs (xs.length-1-i))))=_
 rw[← Cv h]
 show maxL (max 0 ((srt os).length:Int)) _=_
 rw[li,show max 0 (os.length:Int)=os.length by omega]
theorem Hi {N:Net} {B:List (List Int)} {P:List Int} (h:DecOk N B P) (h39:B.length≤39) {k:Nat} (hk:k<B.length):DecOk N (B++[B[k]]) (P++[(k:Int)]):=by
 obtain⟨h1,⟨h2,h3,h4⟩,h5,h6,h7⟩:=h
 have gB:∀ i,i<B.length→(B++[B[k]]).getD i []=B.getD i []:=fun i hi=>by
  simp [zq,List.getElem?_append_left hi]
 have gP:∀ i,i<B.length→(P++[(k:Int)]).getD i 0=P.getD i 0:=fun i hi=>by
  simp [zq,List.getElem?_append_left (show i<P.length by omega)]
 have gBn:(B++[B[k]]).getD B.length []=B[k]:=by simp [zq]
 have gPn:(P++[(k:Int)]).getD B.length 0=k:=by rw[← h3];simp [zq]
 have hgk:(B++[B[k]]).getD k []=B[k]:=by rw[gB k hk,fr hk]
 have htop:∀ x i,i<B.length→topB (B++[B[k]]) (P++[(k:Int)]) x i=topB B P x i:=fun x i hi=>by
  unfold topB
  rw[gB i hi,gP i hi]
  by_cases h0:i=0
  ·simp [h0]
  ·have:=((h4 i hi).1.2 (by omega))
   rw[gB _ (by omega)]
 refine⟨h1,⟨⟨by simp,by simp;omega⟩,by simp [h3],fun i hi=> ?_⟩, ?_,fun t ht=> ?_,fun x hx=> ?_⟩
 ·rw[List.length_append,List.length_singleton]at hi
  by_cases e:i<B.length
  ·obtain⟨⟨a,b⟩,c⟩:=h4 i e
   refine⟨⟨fun h0=> ?_,fun h0=> ?_⟩, ?_⟩
   ·rw[gP 0 (by omega)];exact a h0
   ·rw[gP i e];exact b h0
   ·rw[List.getElem_append_left e];exact c
  ·obtain rfl:i=B.length:=by omega
   refine⟨⟨fun h0=>by omega,fun _=> ?_⟩, ?_⟩
   ·constructor
    ·rw[gPn];omega
    ·rw[gPn];omega
   rw[List.getElem_append_right (Nat.le_refl _)]
   simp only[Nat.sub_self,List.getElem_cons_zero]
   exact(h4 k hk).2
 ·rw[gB 0 (by omega)];exact h5
 ·obtain⟨j,hj,hh⟩:=h6 t ht
  exact⟨j,by simp;omega,by rw[List.getElem_append_left hj];exact hh⟩
 ·rw[List.length_append,List.length_singleton,ku]
  ·have:∀ n,n≤B.length→bo (B++[B[k]]) (P++[(k:Int)]) x n=bo B P x n:=fun n=>by
    induction n with
    | zero=>intro _;rfl
    | succ n ih=>intro hn;rw[bo,bo,ih (by omega),htop x n (by omega)]
   rw[this _ (Nat.le_refl _)]
   exact h7 x hx
  ·unfold topB
   rw[gBn,gPn,Int.toNat_natCast,hgk,decide_eq_false (show ¬ B.length=0 by omega)]
   cases has B[k] x<;>rfl
theorem AL {N:Net} (hok:bn N=true) (hoc:∀ t∈N.ts,∀ x∈t.labels,dimN N.ts x≠0) (ho:∀ x∈N.os,dimN N.ts x≠0):DecOk N [aj N] [-1]:=by
 have hax:=bS hok
 have e:aj N=am (labP N.ts) 100:=by simp [aj,hok]
 rw[e]
 have hm:∀ x,x∈am (labP N.ts) 100↔dimN N.ts x≠0:=fun x=>dK hax
 refine⟨hok,⟨⟨by simp,by simp⟩,rfl,fun i hi=> ?_⟩,decide_eq_true fun x hx=>(hm x).2 (ho x hx),fun t ht=>⟨0,by simp,decide_eq_true fun x hx=>(hm x).2 (hoc t ht x hx)⟩,fun x hx=>vQ 1⟩
 obtain rfl:i=0:=by simpa using hi
 refine⟨⟨fun _=>rfl,fun h=>by omega⟩,fun i h=>⟨(hm _).1 (List.getElem_mem h),fun h0=> ?_⟩⟩
 show (am (labP N.ts) 100).getD (i-1) 0<(am (labP N.ts) 100)[i]
 have hp:(am (labP N.ts) 100).Pairwise (· < ·):=by
  unfold am
  refine List.Pairwise.map _ (fun a b h=> ?_) ((List.pairwise_lt_range).filter _)
  exact Int.ofNat_lt.2 h
 have:=List.pairwise_iff_getElem.1 hp (i-1) i (by simp at h;omega) h (by omega)
 rw[ab (show i-1<(am (labP N.ts) 100).length by simp at h;omega)]
 exact this
set_option maxRecDepth 100000
theorem dZ {xs:List Int} {x:Int} (h:x∉xs):bR xs x<0:=by rw[gJ h];omega
theorem HC {a b:List Int} {k:Nat} (hk:k<a.length) (h:a[k]∉b):allL a b=false:=decide_eq_false fun hh=>h (hh _ (List.getElem_mem hk))
theorem Di {a b:List Int} {k:Nat} (hk:k<a.length) (h:a[k]∈b) (hi:∀ x∈a.take k,x∈b):∀ x∈a.take (k+1),x∈b:=fun x hx=>by
 rw[bb hk]at hx
 rcases List.mem_append.1 hx with hx | hx
 ·exact hi x hx
 ·simp only[List.mem_singleton]at hx
  subst hx
  exact h
theorem BJ {a b:List Int} (ha:a.length≤1048576) (hb:b.length≤1048576):Does Tryz.prog 59 [.d (ints a),.d (ints b)] [] (.d (.bool (allL a b))) []:=by
 (refine spec_of (by kernel_rfl) Tryz.func59 qv (fnOk (nb rfl) ?_);unfold lU)
 (simp only[Nat.reduceSub,Zl,zn,Nat.reduceAdd,zF];try simp only[af]);(simp only[go_sem,seval,reduceCtorEq,List.replicate])
 have hI0:∀ x∈a.take 0,x∈b:=fun x hx=>by simp at hx
 refine bV (a.length) (mkB 18 261200) (fun k=>∀ x∈a.take k,x∈b) (fun k=>[(9,.d (.int k))]) (fun k=>[]) (hi:=hI0) (h1:=by first | (simp only[go_sem,seval,reduceCtorEq,nz,na,n1];first | done | rfl) | rfl) (h2:=by first | (simp only[go_sem,seval,reduceCtorEq,nz,na,n1];first | done | rfl) | rfl) (hr:=fun k hk hi=> ?_)
 unfold kp
 by_cases hlt:k<a.length
 ·have d1:(k:Int)<a.length:=by omega
  have g:a[k]? =some a[k]:=zg hlt
  simp(disch:=omega) only[go_sem,seval,reduceCtorEq,d1,g]
  (refine zC (cm (xs:=b) (x:=a[k]) (by omega)) ?_)
  cases hh:has b a[k]
  ·have e:=HC hlt (aT.1 hh)
   simp(disch:=omega) only[go_sem,seval,reduceCtorEq,hh,e]
   (refine zE ?_ ?_<;>try simp only[go_sem,seval,reduceCtorEq])
  ·have hI:=Di hlt (az.1 hh) hi
   simp(disch:=omega) only[go_sem,seval,reduceCtorEq,hh]
   (refine NextI.drop (mkB 18 261200) (by omega) (hI) (h1:= ?_) (h2:= ?_)<;>first | (simp only[go_sem,seval,reduceCtorEq,nz,na,n1];first | done | rfl) | rfl | skip)
 ·have d1:¬ (k:Int)<a.length:=by omega
  rw[zt (by omega)]at hi
  have e:allL a b=true:=decide_eq_true hi
  simp(disch:=omega) only[go_sem,seval,reduceCtorEq,d1,e]
  (refine zE ?_ ?_<;>try simp only[go_sem,seval,reduceCtorEq])
theorem CN {B:List (List Int)} {l:List Int} {k:Nat} (hk:k<B.length) (h:allL l B[k]=false) (hi:∀ j (hj:j<B.length),j<k→allL l B[j]=false):∀ j (hj:j<B.length),j<k+1→allL l B[j]=false:=fun j hj hjk=>by
 by_cases e:j=k
 ·subst e;exact h
 ·exact hi j hj (by omega)
theorem wz {B:List (List Int)} {P l:List Int} (h:DSz 1048576 B P) (hl:l.length≤1048576):Does Tryz.prog 60 [decA B P,.d (ints l)] [] (.d (.int (bZ B l))) []:=by
 have hbl:=h.b
 (refine spec_of (by kernel_rfl) Tryz.func60 uC (fnOk (nb rfl) ?_);unfold o3)
 (simp only[Nat.reduceSub,Zl,zn,Nat.reduceAdd,zF];try simp only[af]);(simp only[go_sem,seval,reduceCtorEq,List.replicate])
 have hI0:∀ j (hj:j<B.length),j<0→allL l B[j]=false:=fun j _ hj=>absurd hj (Nat.not_lt_zero j)
 refine bV (B.length) (mkB 20 1046640) (fun k=>∀ j (hj:j<B.length),j<k→allL l B[j]=false) (fun k=>[(10,.d (.int k))]) (fun k=>[]) (hi:=hI0) (h1:=by first | (simp only[go_sem,seval,reduceCtorEq,nz,na,n1];first | done | rfl) | rfl) (h2:=by first | (simp only[go_sem,seval,reduceCtorEq,nz,na,n1];first | done | rfl) | rfl) (hr:=fun k hk hi=> ?_)
 unfold mi
 by_cases hlt:k<B.length
 ·have d1:(k:Int)<B.length:=by omega
  have g:B[k]? =some B[k]:=zg hlt
  have hs:=(h.e B[k] (List.getElem_mem hlt)).len
  simp(disch:=omega) only[go_sem,seval,reduceCtorEq,d1,g]
  (refine zC (BJ (a:=l) (b:=B[k]) hl hs) ?_)
  cases hh:allL l B[k]
  ·have hI:=CN hlt hh hi
   simp(disch:=omega) only[go_sem,seval,reduceCtorEq,hh]
   (refine NextI.drop (mkB 20 1046640) (by omega) (hI) (h1:= ?_) (h2:= ?_)<;>first | (simp only[go_sem,seval,reduceCtorEq,nz,na,n1];first | done | rfl) | rfl | skip)
  ·have e:=CP hlt hh hi
   simp(disch:=omega) only[go_sem,seval,reduceCtorEq,hh,e]
   (refine zE ?_ ?_<;>try simp only[go_sem,seval,reduceCtorEq])
 ·have d1:¬ (k:Int)<B.length:=by omega
  have e:=Au (B:=B) (l:=l) fun j hj=>hi j hj (by omega)
  simp(disch:=omega) only[go_sem,seval,reduceCtorEq,d1,e]
  (refine zE ?_ ?_<;>try simp only[go_sem,seval,reduceCtorEq])
theorem mZ {N:Net} (h:NSz 1048576 N):Does Tryz.prog 22 [netA N] [] (.d (ints (aj N))) []:=(sq h).fzI
theorem tt {ts:List Ten} {b:List Int} {k:Nat} (hk:k<b.length) (h:dimN ts b[k]≠0∧(0<k→b.getD (k-1) 0<b[k])) (hi:∀ j (hj:j<b.length),j<k→dimN ts b[j]≠0∧(0<j→b.getD (j-1) 0<b[j])):
  ∀ j (hj:j<b.length),j<k+1→dimN ts b[j]≠0∧(0<j→b.getD (j-1) 0<b[j]):=fun j hj hjk=>by
 by_cases e:j=k
 ·subst e;exact h
 ·exact hi j hj (by omega)
theorem wZ {ts:List Ten} {B:List (List Int)} {P:List Int} {k:Nat} (hk:k<B.length) (h:PrOk P k∧BgOk ts B[k]) (hi:∀ i (hi:i<B.length),i<k→PrOk P i∧BgOk ts B[i]):
  ∀ i (hi:i<B.length),i<k+1→PrOk P i∧BgOk ts B[i]:=fun j hj hjk=>by
 by_cases e:j=k
 ·subst e;exact h
 ·exact hi j hj (by omega)
theorem FC {N:Net} {B:List (List Int)} {P:List Int} (h:NSz 1048576 N) (hok:bn N=true) (hD:DSz 1048576 B P):Does Tryz.prog 58 [netA N,decA B P] [] (.d (.bool (kP N.ts B P))) []:=by
 have hbl:=hD.b
 have hpl:=hD.p.len
 have hax:=bS hok
 have hll:aj N=am (labP N.ts) 100:=by simp [aj,hok]
 have hlm:(am (labP N.ts) 100).length≤100:=cW _ _
 (refine spec_of (by kernel_rfl) Tryz.func58 vJ (fnOk (nb rfl) ?_);unfold pe)
 (simp only[Nat.reduceSub,Zl,zn,Nat.reduceAdd,zF];try simp only[af]);(simp only[go_sem,seval,reduceCtorEq,List.replicate])
 by_cases b1:(B.length:Int)<1
 ·have e:kP N.ts B P=false:=kO fun hh=>by have:=hh.1;omega
  simp(disch:=omega) only[go_sem,seval,reduceCtorEq,b1,e]
  (refine zE ?_ ?_<;>try simp only[go_sem,seval,reduceCtorEq])
 by_cases b2:(B.length:Int)>40
 ·have e:kP N.ts B P=false:=kO fun hh=>by have:=hh.1;omega
  simp(disch:=omega) only[go_sem,seval,reduceCtorEq,b1,b2,e]
  (refine zE ?_ ?_<;>try simp only[go_sem,seval,reduceCtorEq])
 by_cases b3:P.length=B.length
 case neg=>
  have d3:((P.length:Int) !=B.length)=true:=by simp only[bne_iff_ne,ne_eq];omega
  have e:kP N.ts B P=false:=kO fun hh=>b3 hh.2.1
  simp(disch:=omega) only[go_sem,seval,reduceCtorEq,b1,b2,d3,e]
  (refine zE ?_ ?_<;>try simp only[go_sem,seval,reduceCtorEq])
 have d3:((P.length:Int) !=B.length)=false:=by simp only[bne_eq_false_iff_eq];omega
 have g0:P[0]? =some (P.getD 0 0):=by rw[ab (show 0<P.length by omega)];exact zg (by omega)
 have dP0:(0:Int)<P.length:=by omega
 by_cases b4:P.getD 0 0= -1
 case neg=>
  have d4:(P.getD 0 0 != -1)=true:=by simp only[bne_iff_ne,ne_eq];exact b4
  have e:kP N.ts B P=false:=kO fun hh=>b4 ((hh.2.2 0 (by omega)).1.1 rfl)
  simp(disch:=omega) only[go_sem,seval,reduceCtorEq,b1,b2,d3,dP0,g0,d4,e]
  (refine zE ?_ ?_<;>try simp only[go_sem,seval,reduceCtorEq])
 have d4:(P.getD 0 0 != -1)=false:=by simp only[bne_eq_false_iff_eq];exact b4
 simp(disch:=omega) only[go_sem,seval,reduceCtorEq,b1,b2,d3,dP0,g0,d4]
 (refine zC (mZ h) ?_)
 simp(disch:=omega) only[go_sem,seval,reduceCtorEq,hll]
 have hI0:∀ i (hi:i<B.length),i<0→PrOk P i∧BgOk N.ts B[i]:=fun j _ hj=>absurd hj (Nat.not_lt_zero j)
 refine bV (B.length) (mkB 91 2475880078570756151751738320) (fun k=>∀ i (hi:i<B.length),i<k→PrOk P i∧BgOk N.ts B[i]) (fun k=>[(41,.d (.int k))]) (fun k=>[]) (hi:=hI0) (h1:=by first | (simp only[go_sem,seval,reduceCtorEq,nz,na,n1];first | done | rfl) | rfl) (h2:=by first | (simp only[go_sem,seval,reduceCtorEq,nz,na,n1];first | done | rfl) | rfl) (hr:=fun k hk hi=> ?_)
 unfold nw
 by_cases hlt:k<B.length
 ·have d1:(k:Int)<B.length:=by omega
  have dp:(k:Int)<P.length:=by omega
  have g:B[k]? =some B[k]:=zg hlt
  have gp:P[k]? =some (P.getD k 0):=by rw[ab (show k<P.length by omega)];exact zg (by omega)
  have hs:=(hD.e B[k] (List.getElem_mem hlt)).len
  have bad:¬ (PrOk P k∧BgOk N.ts B[k])→kP N.ts B P=false:=fun hb=>kO fun hh=>hb (hh.2.2 k hlt)
  by_cases hk0:k=0
  ·have d2:¬ (k:Int)>0:=by omega
   have hpr:PrOk P k:=⟨fun _=>b4,fun hh=>by omega⟩
   simp(disch:=omega) only[go_sem,seval,reduceCtorEq,d1,g,dp,gp,d2]
   have hJ0:∀ i (hi:i<B[k].length),i<0→dimN N.ts B[k][i]≠0∧(0<i→B[k].getD (i-1) 0<B[k][i]):=fun j _ hj=>absurd hj (Nat.not_lt_zero j)
   refine bV (B[k].length) (mkB 91 1237939744137475095546299152) (fun j=>∀ i (hi:i<B[k].length),i<j→dimN N.ts B[k][i]≠0∧(0<i→B[k].getD (i-1) 0<B[k][i])) (fun j=>[(67,.d (.int j))]) (fun j=>[]) (hi:=hJ0) (h1:=by first | (simp only[go_sem,seval,reduceCtorEq,nz,na,n1];first | done | rfl) | rfl) (h2:=by first | (simp only[go_sem,seval,reduceCtorEq,nz,na,n1];first | done | rfl) | rfl) (hr:=fun j hj hij=> ?_)
   unfold ip
   by_cases hltj:j<B[k].length
   ·have f1:(j:Int)<B[k].length:=by omega
    have gj:B[k][j]? =some B[k][j]:=zg hltj
    have badj:¬ (dimN N.ts B[k][j]≠0∧(0<j→B[k].getD (j-1) 0<B[k][j]))→kP N.ts B P=false:=fun hb=>bad fun hh=>hb (hh.2 j hltj)
    simp(disch:=omega) only[go_sem,seval,reduceCtorEq,f1,gj]
    (refine zC (cm (xs:=am (labP N.ts) 100) (x:=B[k][j]) (by omega)) ?_)
    cases hh:has (am (labP N.ts) 100) B[k][j]
    ·have e:=badj fun hb=>aT.1 hh ((dK hax).2 hb.1)
     simp(disch:=omega) only[go_sem,seval,reduceCtorEq,hh,e]
     (refine zE ?_ ?_<;>try simp only[go_sem,seval,reduceCtorEq])
    have hne:=(dK hax).1 (az.1 hh)
    by_cases hj0:j=0
    ·have f2:¬ (j:Int)>0:=by omega
     have hI:=tt hltj ⟨hne,fun hb=>by omega⟩ hij
     simp(disch:=omega) only[go_sem,seval,reduceCtorEq,hh,f2]
     (refine NextI.drop (mkB 91 1237939744137475095546299152) (by omega) (hI) (h1:= ?_) (h2:= ?_)<;>first | (simp only[go_sem,seval,reduceCtorEq,nz,na,n1];first | done | rfl) | rfl | skip)
    ·have f2:(j:Int)>0:=by omega
     have f3:(j:Int)-1=((j-1:Nat):Int):=by omega
     have f4:((j-1:Nat):Int)<B[k].length:=by omega
     have gj1:B[k][j-1]? =some (B[k].getD (j-1) 0):=by rw[ab (show j-1<B[k].length by omega)];exact zg (by omega)
     by_cases hge:B[k].getD (j-1) 0≥B[k][j]
     ·have e:=badj fun hb=>by have:=hb.2 (by omega);omega
      simp(disch:=omega) only[go_sem,seval,reduceCtorEq,hh,f2,f3,f4,gj1,hge,e]
      (refine zE ?_ ?_<;>try simp only[go_sem,seval,reduceCtorEq])
     ·have hI:=tt hltj ⟨hne,fun _=>by omega⟩ hij
      simp(disch:=omega) only[go_sem,seval,reduceCtorEq,hh,f2,f3,f4,gj1,hge]
      (refine NextI.drop (mkB 91 1237939744137475095546299152) (by omega) (hI) (h1:= ?_) (h2:= ?_)<;>first | (simp only[go_sem,seval,reduceCtorEq,nz,na,n1];first | done | rfl) | rfl | skip)
   ·have f1:¬ (j:Int)<B[k].length:=by omega
    have hI:=wZ hlt ⟨hpr,fun i hi=>hij i hi (by omega)⟩ hi
    simp(disch:=omega) only[go_sem,seval,reduceCtorEq,f1]
    (refine NextI.drop (mkB 91 2475880078570756151751738320) (by omega) (hI) (h1:= ?_) (h2:= ?_)<;>first | (simp only[go_sem,seval,reduceCtorEq,nz,na,n1];first | done | rfl) | rfl | skip)
  ·have d2:(k:Int)>0:=by omega
   by_cases p1:P.getD k 0<0
   ·have e:=bad fun hh=>by have:=hh.1.2 (by omega);omega
    simp(disch:=omega) only[go_sem,seval,reduceCtorEq,d1,g,dp,gp,d2,p1,e]
    (refine zE ?_ ?_<;>try simp only[go_sem,seval,reduceCtorEq])
   by_cases p2:P.getD k 0≥k
   ·have e:=bad fun hh=>by have:=hh.1.2 (by omega);omega
    simp(disch:=omega) only[go_sem,seval,reduceCtorEq,d1,g,dp,gp,d2,p1,p2,e]
    (refine zE ?_ ?_<;>try simp only[go_sem,seval,reduceCtorEq])
   have hpr:PrOk P k:=⟨fun hh=>absurd hh hk0,fun _=>by omega⟩
   simp(disch:=omega) only[go_sem,seval,reduceCtorEq,d1,g,dp,gp,d2,p1,p2]
   have hJ0:∀ i (hi:i<B[k].length),i<0→dimN N.ts B[k][i]≠0∧(0<i→B[k].getD (i-1) 0<B[k][i]):=fun j _ hj=>absurd hj (Nat.not_lt_zero j)
   refine bV (B[k].length) (mkB 91 1237939744137475095546299152) (fun j=>∀ i (hi:i<B[k].length),i<j→dimN N.ts B[k][i]≠0∧(0<i→B[k].getD (i-1) 0<B[k][i])) (fun j=>[(67,.d (.int j))]) (fun j=>[]) (hi:=hJ0) (h1:=by first | (simp only[go_sem,seval,reduceCtorEq,nz,na,n1];first | done | rfl) | rfl) (h2:=by first | (simp only[go_sem,seval,reduceCtorEq,nz,na,n1];first | done | rfl) | rfl) (hr:=fun j hj hij=> ?_)
   unfold ip
   by_cases hltj:j<B[k].length
   ·have f1:(j:Int)<B[k].length:=by omega
    have gj:B[k][j]? =some B[k][j]:=zg hltj
    have badj:¬ (dimN N.ts B[k][j]≠0∧(0<j→B[k].getD (j-1) 0<B[k][j]))→kP N.ts B P=false:=fun hb=>bad fun hh=>hb (hh.2 j hltj)
    simp(disch:=omega) only[go_sem,seval,reduceCtorEq,f1,gj]
    (refine zC (cm (xs:=am (labP N.ts) 100) (x:=B[k][j]) (by omega)) ?_)
    cases hh:has (am (labP N.ts) 100) B[k][j]
    ·have e:=badj fun hb=>aT.1 hh ((dK hax).2 hb.1)
     simp(disch:=omega) only[go_sem,seval,reduceCtorEq,hh,e]
     (refine zE ?_ ?_<;>try simp only[go_sem,seval,reduceCtorEq])
    have hne:=(dK hax).1 (az.1 hh)
    by_cases hj0:j=0
    ·have f2:¬ (j:Int)>0:=by omega
     have hI:=tt hltj ⟨hne,fun hb=>by omega⟩ hij
     simp(disch:=omega) only[go_sem,seval,reduceCtorEq,hh,f2]
     (refine NextI.drop (mkB 91 1237939744137475095546299152) (by omega) (hI) (h1:= ?_) (h2:= ?_)<;>first | (simp only[go_sem,seval,reduceCtorEq,nz,na,n1];first | done | rfl) | rfl | skip)
    ·have f2:(j:Int)>0:=by omega
     have f3:(j:Int)-1=((j-1:Nat):Int):=by omega
     have f4:((j-1:Nat):Int)<B[k].length:=by omega
     have gj1:B[k][j-1]? =some (B[k].getD (j-1) 0):=by rw[ab (show j-1<B[k].length by omega)];exact zg (by omega)
     by_cases hge:B[k].getD (j-1) 0≥B[k][j]
     ·have e:=badj fun hb=>by have:=hb.2 (by omega);omega
      simp(disch:=omega) only[go_sem,seval,reduceCtorEq,hh,f2,f3,f4,gj1,hge,e]
      (refine zE ?_ ?_<;>try simp only[go_sem,seval,reduceCtorEq])
     ·have hI:=tt hltj ⟨hne,fun _=>by omega⟩ hij
      simp(disch:=omega) only[go_sem,seval,reduceCtorEq,hh,f2,f3,f4,gj1,hge]
      (refine NextI.drop (mkB 91 1237939744137475095546299152) (by omega) (hI) (h1:= ?_) (h2:= ?_)<;>first | (simp only[go_sem,seval,reduceCtorEq,nz,na,n1];first | done | rfl) | rfl | skip)
   ·have f1:¬ (j:Int)<B[k].length:=by omega
    have hI:=wZ hlt ⟨hpr,fun i hi=>hij i hi (by omega)⟩ hi
    simp(disch:=omega) only[go_sem,seval,reduceCtorEq,f1]
    (refine NextI.drop (mkB 91 2475880078570756151751738320) (by omega) (hI) (h1:= ?_) (h2:= ?_)<;>first | (simp only[go_sem,seval,reduceCtorEq,nz,na,n1];first | done | rfl) | rfl | skip)
 ·have d1:¬ (k:Int)<B.length:=by omega
  have e:kP N.ts B P=true:=rW ⟨by omega,b3,fun i hi'=>hi i hi' (by omega)⟩
  simp(disch:=omega) only[go_sem,seval,reduceCtorEq,d1,e]
  (refine zE ?_ ?_<;>try simp only[go_sem,seval,reduceCtorEq])
theorem At {N:Net} {B:List (List Int)} {k:Nat} (hk:k<N.ts.length) (h:Home B N.ts[k].labels) (hi:∀ t∈N.ts.take k,Home B t.labels):∀ t∈N.ts.take (k+1),Home B t.labels:=fun t ht=>by
 rw[bb hk]at ht
 rcases List.mem_append.1 ht with ht | ht
 ·exact hi t ht
 ·simp only[List.mem_singleton]at ht;subst ht;exact h
theorem BT {L:List Int} {B:List (List Int)} {P:List Int} {k n:Nat} (hk:k<L.length) (h:bo B P L[k] n≤1) (hi:∀ x∈L.take k,bo B P x n≤1):∀ x∈L.take (k+1),bo B P x n≤1:=fun t ht=>by
 rw[bb hk]at ht
 rcases List.mem_append.1 ht with ht | ht
 ·exact hi t ht
 ·simp only[List.mem_singleton]at ht;subst ht;exact h
theorem gS {N:Net} {B:List (List Int)} {P:List Int} (h:NSz 1048576 N) (hD:DSz 1048576 B P):Does Tryz.prog 18 [netA N,decA B P] [] (.d (.bool (decB N B P))) []:=by
 have hbl:=hD.b
 have hpl:=hD.p.len
 have hnl:=h.l
 have hol:=h.o.len
 (refine spec_of (by kernel_rfl) Tryz.func18 lA (fnOk (nb rfl) ?_);unfold eQ)
 (simp only[Nat.reduceSub,Zl,zn,Nat.reduceAdd,zF];try simp only[af]);(simp only[go_sem,seval,reduceCtorEq,List.replicate])
 (refine zD (gg h) ?_)
 cases hok:bn N
 ·have e:decB N B P=false:=qK fun hh=>by have:=hh.1;rw[hok]at this;cases this
  simp only[go_sem,seval,reduceCtorEq,hok,e]
  (refine zE ?_ ?_<;>try simp only[go_sem,seval,reduceCtorEq])
 have hax:=bS hok
 have hll:aj N=am (labP N.ts) 100:=by simp [aj,hok]
 have hlm:(am (labP N.ts) 100).length≤100:=cW _ _
 simp only[go_sem,seval,reduceCtorEq,hok]
 (refine zD (FC h hok hD) ?_)
 cases hbg:kP N.ts B P
 ·have e:decB N B P=false:=qK fun hh=>by rw[rW hh.2.1]at hbg;cases hbg
  simp only[go_sem,seval,reduceCtorEq,hbg,e]
  (refine zE ?_ ?_<;>try simp only[go_sem,seval,reduceCtorEq])
 have hbk:=Dh.1 hbg
 have hb1:=hbk.1
 have hb2:=hbk.2.1
 have g0:B[0]? =some B[0]:=zg (by omega)
 have e0:B.getD 0 []=B[0]:=fr (by omega)
 have i0:(0:Int)<B.length:=by omega
 have hs0:=(hD.e B[0] (List.getElem_mem (by omega))).len
 simp(disch:=omega) only[go_sem,seval,reduceCtorEq,hbg,g0,i0]
 (refine zC (BJ (a:=N.os) (b:=B[0]) hol hs0) ?_)
 cases hal:allL N.os B[0]
 ·have e:decB N B P=false:=qK fun hh=>by have:=hh.2.2.1;rw[e0,hal]at this;cases this
  simp(disch:=omega) only[go_sem,seval,reduceCtorEq,hal,e]
  (refine zE ?_ ?_<;>try simp only[go_sem,seval,reduceCtorEq])
 simp(disch:=omega) only[go_sem,seval,reduceCtorEq,hal]
 have hI0:∀ t∈N.ts.take 0,Home B t.labels:=fun t ht=>by simp at ht
 refine bV (N.ts.length) (mkB 86 17557826306128) (fun k=>∀ t∈N.ts.take k,Home B t.labels) (fun k=>[(34,.d (.int k))]) (fun k=>[]) (hi:=hI0) (h1:=by first | (simp only[go_sem,seval,reduceCtorEq,nz,na,n1];first | done | rfl) | rfl) (h2:=by first | (simp only[go_sem,seval,reduceCtorEq,nz,na,n1];first | done | rfl) | rfl) (hr:=fun k hk hi=> ?_)
 unfold eo
 by_cases hlt:k<N.ts.length
 ·have d1:(k:Int)<N.ts.length:=by omega
  have g3:=fj (zg hlt)
  have hst:=h.t N.ts[k] (List.getElem_mem hlt)
  simp(disch:=omega) only[go_sem,seval,reduceCtorEq,d1,g3]
  (repeat (refine And.intro (by omega) ?_))
  (refine zC (wz (B:=B) (P:=P) (l:=N.ts[k].labels) hD hst.l.len) ?_)
  by_cases hm:bZ B N.ts[k].labels<0
  ·have e:decB N B P=false:=qK fun hh=>z7 hm (hh.2.2.2.1 _ (List.getElem_mem hlt))
   simp(disch:=omega) only[go_sem,seval,reduceCtorEq,hm,e]
   (refine zE ?_ ?_<;>try simp only[go_sem,seval,reduceCtorEq])
  ·have hI:=At hlt (CO hm) hi
   simp(disch:=omega) only[go_sem,seval,reduceCtorEq,hm]
   (refine NextI.drop (mkB 86 17557826306128) (by omega) (hI) (h1:= ?_) (h2:= ?_)<;>first | (simp only[go_sem,seval,reduceCtorEq,nz,na,n1];first | done | rfl) | rfl | skip)
 have d1:¬ (k:Int)<N.ts.length:=by omega
 rw[zt (by omega)]at hi
 simp(disch:=omega) only[go_sem,seval,reduceCtorEq,d1]
 (refine zC (mZ h) ?_)
 simp(disch:=omega) only[go_sem,seval,reduceCtorEq,hll]
 have hT0:∀ x∈(am (labP N.ts) 100).take 0,bo B P x B.length≤1:=fun t ht=>by simp at ht
 obtain rfl:k=N.ts.length:=by omega
 clear d1 hlt
 have hhome:=hi
 clear hi
 refine bV ((am (labP N.ts) 100).length) (mkB 86 77371252455054792204488464) (fun k=>∀ x∈(am (labP N.ts) 100).take k,bo B P x B.length≤1) (fun k=>[(47,.d (.int k))]) (fun k=>[]) (hi:=hT0) (h1:=by first | (simp only[go_sem,seval,reduceCtorEq,nz,na,n1];first | done | rfl) | rfl) (h2:=by first | (simp only[go_sem,seval,reduceCtorEq,nz,na,n1];first | done | rfl) | rfl) (hr:=fun k hk hi=> ?_)
 unfold er
 by_cases hlt:k<(am (labP N.ts) 100).length
 ·have d1:(k:Int)<(am (labP N.ts) 100).length:=by omega
  have g:(am (labP N.ts) 100)[k]? =some (am (labP N.ts) 100)[k]:=zg hlt
  have hx:=(dK hax).1 (List.getElem_mem hlt)
  simp(disch:=omega) only[go_sem,seval,reduceCtorEq,d1,g]
  generalize hxe:(am (labP N.ts) 100)[k]=x at*
  have hit:=hi
  refine aN (B.length) (mkB 86 9671406520888236378688512) (fun i=>[(9,.d (.int (bo B P x i))),(54,.d (.int i))]) (fun i=>[]) (h1:=by first | (simp only[go_sem,seval,reduceCtorEq,nz,na,n1,bo,Int.natCast_zero];first | done | rfl) | rfl) (h2:=by first | (simp only[go_sem,seval,reduceCtorEq,nz,na,n1,bo,Int.natCast_zero];first | done | rfl) | rfl) (hr:=fun i hi=> ?_)
  unfold ew
  have htl:=vQ (B:=B) (P:=P) (x:=x) i
  by_cases hlti:i<B.length
  ·have f1:(i:Int)<B.length:=by omega
   have gi:B[i]? =some B[i]:=zg hlti
   have ei:B.getD i []=B[i]:=fr hlti
   have hsi:=(hD.e B[i] (List.getElem_mem hlti)).len
   simp(disch:=omega) only[go_sem,seval,reduceCtorEq,f1,gi]
   (refine zD (cm (xs:=B[i]) (x:=x) (by omega)) ?_)
   cases hh:has B[i] x
   ·have ht:topB B P x i=false:=by rw[topB,ei,hh];rfl
    simp(disch:=omega) only[go_sem,seval,reduceCtorEq,hh]
    (refine Next.drop (mkB 86 9671406520888236378688512) (by omega) (h1:= ?_) (h2:= ?_)<;>first | (simp only[go_sem,seval,reduceCtorEq,nz,na,n1,ku ht];first | done | rfl) | rfl | skip)
   by_cases hi0:i=0
   ·have f2:((i:Int)==0)=true:=beq_iff_eq.2 (by omega)
    have ht:topB B P x i=true:=by rw[topB,ei,hh,decide_eq_true hi0];rfl
    simp(disch:=omega) only[go_sem,seval,reduceCtorEq,hh,f2]
    (refine Next.drop (mkB 86 9671406520888236378688512) (by omega) (h1:= ?_) (h2:= ?_)<;>first | (simp only[go_sem,seval,reduceCtorEq,nz,na,n1,gF ht];first | done | rfl) | rfl | skip)
   ·have f2:((i:Int)==0)=false:=beq_false_of_ne (by omega)
    have hp:=((hbk.2.2 i hlti).1).2 (by omega)
    have hpn:((P.getD i 0).toNat:Int)=P.getD i 0:=by omega
    have f3:(i:Int)<P.length:=by omega
    have gp:P[i]? =some ((P.getD i 0).toNat:Int):=by rw[hpn,ab (show i<P.length by omega)];exact zg (by omega)
    have hpl2:(P.getD i 0).toNat<B.length:=by omega
    have ht0:topB B P x i= !has (B.getD (P.getD i 0).toNat []) x:=by rw[topB,ei,hh,decide_eq_false hi0];rfl
    generalize (P.getD i 0).toNat=p at*
    have f4:(p:Int)<B.length:=by omega
    have gb:B[p]? =some B[p]:=zg hpl2
    have eb:B.getD p []=B[p]:=fr hpl2
    have hsp:=(hD.e B[p] (List.getElem_mem hpl2)).len
    rw[eb]at ht0
    simp(disch:=omega) only[go_sem,seval,reduceCtorEq,hh,f2,f3,gp,f4,gb]
    (refine zC (cm (xs:=B[p]) (x:=x) (by omega)) ?_)
    cases hq:has B[p] x
    ·have ht:topB B P x i=true:=by rw[ht0,hq];rfl
     simp(disch:=omega) only[go_sem,seval,reduceCtorEq,hq]
     (refine Next.drop (mkB 86 9671406520888236378688512) (by omega) (h1:= ?_) (h2:= ?_)<;>first | (simp only[go_sem,seval,reduceCtorEq,nz,na,n1,gF ht];first | done | rfl) | rfl | skip)
    ·have ht:topB B P x i=false:=by rw[ht0,hq];rfl
     simp(disch:=omega) only[go_sem,seval,reduceCtorEq,hq]
     (refine Next.drop (mkB 86 9671406520888236378688512) (by omega) (h1:= ?_) (h2:= ?_)<;>first | (simp only[go_sem,seval,reduceCtorEq,nz,na,n1,ku ht];first | done | rfl) | rfl | skip)
  ·have f1:¬ (i:Int)<B.length:=by omega
   obtain rfl:i=B.length:=by omega
   have hge:=Dv hbk hhome hx
   by_cases h1:bo B P x B.length≤1
   ·have f2:((bo B P x B.length:Int) !=1)=false:=by simp only[bne_eq_false_iff_eq];omega
    have hI:=BT (n:=B.length) hlt (by rw[hxe];exact h1) hit
    simp(disch:=omega) only[go_sem,seval,reduceCtorEq,f1,f2]
    (refine NextI.drop (mkB 86 77371252455054792204488464) (by omega) (hI) (h1:= ?_) (h2:= ?_)<;>first | (simp only[go_sem,seval,reduceCtorEq,nz,na,n1];first | done | rfl) | rfl | skip)
   ·have f2:((bo B P x B.length:Int) !=1)=true:=by simp only[bne_iff_ne,ne_eq];omega
    have e:decB N B P=false:=qK fun hh=>h1 (by rw[← hxe];exact hh.2.2.2.2 _ (List.getElem_mem hlt))
    simp(disch:=omega) only[go_sem,seval,reduceCtorEq,f1,f2,e]
    (refine zE ?_ ?_<;>try simp only[go_sem,seval,reduceCtorEq])
 ·have d1:¬ (k:Int)<(am (labP N.ts) 100).length:=by omega
  rw[zt (by omega)]at hi
  have e:decB N B P=true:=vb ⟨hok,hbk,by rw[e0];exact hal,hhome,hi⟩
  simp(disch:=omega) only[go_sem,seval,reduceCtorEq,d1,e]
  (refine zE ?_ ?_<;>try simp only[go_sem,seval,reduceCtorEq])
set_option maxRecDepth 100000
end Go.Proofs.YtjfmckhbmdjnpaaGreat
