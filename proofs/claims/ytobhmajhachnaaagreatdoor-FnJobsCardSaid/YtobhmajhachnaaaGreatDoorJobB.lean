/-
 Texts: what is joined comes apart again; an int's text spells the int. No condition.
-/
import Derived.Test.YtobhmajhachnaaaGreatDoorStr
import Derived.Lib.Split
import Derived.Lib.Atoi
set_option linter.unusedSimpArgs false
set_option linter.unusedVariables false
namespace Go.Proofs.YtobhmajhachnaaaGreatDoor
open Go.RowKit Go.Lift Plain
theorem If{x r:List UInt8}{c:UInt8}(h:c∉x):Lib.index (x++c :: r) [c]=x.length:=by
 refine Lib.index_first (by simp) ?_ fun j hj=> ?_
 ·unfold Lib.occAt
  rw[List.drop_left]
  simp
 ·unfold Lib.occAt
  rw[List.drop_append_of_le_length (by omega),List.drop_eq_getElem_cons hj];simp only[List.cons_append,List.isPrefixOf,Bool.and_true,beq_eq_false_iff_ne,ne_eq];exact fun e=>h (e ▸ List.getElem_mem hj)
theorem Ie{x:List UInt8}{c:UInt8}(h:c∉x):Lib.index x [c]= -1:=by
 rcases Lib.index_spec x [c]with h1|⟨i,h1,h2,h3,_⟩
 ·exact h1.1
 ·exfalso
  unfold Lib.occAt at h3;rcases Nat.lt_or_ge i x.length with hi|hi
  ·rw[List.drop_eq_getElem_cons hi]at h3
   simp only[List.isPrefixOf,Bool.and_true,beq_iff_eq]at h3;exact h (h3 ▸ List.getElem_mem hi)
  ·rw[List.drop_eq_nil_of_le hi]at h3
   simp at h3
theorem Du(x y:List UInt8)(l:List (List UInt8))(c:UInt8):Lib.join (x :: y :: l) [c]=x++c :: Lib.join (y :: l) [c]:=by
 simp [Lib.join,List.intercalate,List.intersperse]
theorem join_one(x sep:List UInt8):Lib.join [x] sep=x:=by simp [Lib.join,List.intercalate,List.intersperse]
theorem wD{c:UInt8}:∀(xs:List (List UInt8)),xs≠[]→(∀x∈xs,c∉x)→Lib.count (Lib.join xs [c]) [c]+1=xs.length∧Lib.splitK [c] 0 (xs.length-1) (Lib.join xs [c])=xs
 | [],h,_=>absurd rfl h
 | [x],_,h=>by
  rw[join_one];exact⟨by rw[Lib.count_miss (Ie (h x (by simp)))];rfl,rfl⟩
 |x :: y :: l,_,h=>by
  obtain⟨i1,i2⟩:=wD (y :: l) (by simp) fun z hz=>h z (List.mem_cons_of_mem _ hz)
  have hx:=If (r:=Lib.join (y :: l) [c]) (h x List.mem_cons_self);have hd:(x++c :: Lib.join (y :: l) [c]).drop (x.length+[c].length)=Lib.join (y :: l) [c]:=by
   rw[show x++c :: Lib.join (y :: l) [c]=(x++[c])++Lib.join (y :: l) [c]by simp];rw[show x.length+[c].length=(x++[c]).length by simp,List.drop_left]
  rw[Du];refine⟨?_, ?_⟩
  ·rw[Lib.count_hit (by simp) hx,hd]
   simp only[Zl]at i1 ⊢;omega
  ·show Lib.splitK [c] 0 (l.length+1) _=_
   have hne:¬((x.length:Int)== -1)=true:=by rw[beq_iff_eq];omega
   rw[Lib.splitK,hx,if_neg hne,Int.toNat_natCast,hd,Nat.add_zero,List.take_left]
   congr 1
theorem DU{c:UInt8}{xs:List ByteArray}(h:xs≠[])(hc:∀x∈xs,c∉x.data.toList):Lib.countB (be xs ⟨#[c]⟩) ⟨#[c]⟩+1=xs.length∧Lib.splitB ⟨#[c]⟩ 0 (Lib.countB (be xs ⟨#[c]⟩) ⟨#[c]⟩) (be xs ⟨#[c]⟩)=xs:=by
 have hm:xs.map (·.data.toList)≠[]:=fun e=>h (by simpa using e)
 obtain⟨h1,h2⟩:=wD (c:=c) (xs.map (·.data.toList)) hm fun x hx=>by
  obtain⟨y,hy,rfl⟩:=List.mem_map.1 hx;exact hc y hy
 have e:(be xs ⟨#[c]⟩).data.toList=Lib.join (xs.map (·.data.toList)) [c]:=rfl;have hcnt:Lib.countB (be xs ⟨#[c]⟩) ⟨#[c]⟩=xs.length-1:=by
  show Lib.count (be xs ⟨#[c]⟩).data.toList [c]=_
  rw[e];rw[List.length_map]at h1;omega
 have hp:0<xs.length:=List.length_pos_iff.2 h;refine⟨by rw[hcnt];omega, ?_⟩;rw[hcnt];have h3:=Lib.splitB_data ⟨#[c]⟩ 0 (xs.length-1) (be xs ⟨#[c]⟩);rw[List.length_map]at h2;rw[e,h2]at h3;have inj:∀(a b:List ByteArray),a.map (·.data.toList)=b.map (·.data.toList)→a=b:=by
  intro a
  induction a with
  |nil=>intro b hb;cases b with
   |nil=>rfl
   |cons _ _=>simp at hb
  |cons x a ih=>intro b hb;cases b with
   |nil=>simp at hb
   |cons y b=>
    simp only[List.map_cons,List.cons.injEq]at hb;rw[J5 hb.1,ih b hb.2]
 exact inj _ _ h3
theorem tp:∀(l:List UInt8) (acc:Nat) (b:UInt8) (n d:Nat),Lib.decFrom acc l=some n→Lib.digitVal b=some d→Lib.decFrom acc (l++[b])=some (n*10+d)
 | [],acc,b,n,d,h,hd=>by
  simp only[Lib.decFrom,zj]at h;subst h;simp [Lib.decFrom,hd]
 |a :: l,acc,b,n,d,h,hd=>by
  simp only[List.cons_append,Lib.decFrom]at h ⊢;cases ha:Lib.digitVal a with
  |none=>simp [ha]at h
  |some e=>
   simp only[ha]at h ⊢;exact tp l _ b n d h hd
theorem CU{u:Nat}(h:u<10):Lib.digitVal (UInt8.ofNat (48+u))=some u:=by
 have e:(UInt8.ofNat (48+u)).toNat=48+u:=by rw[UInt8.toNat_ofNat_of_lt'];show 48+u<256;omega
 unfold Lib.digitVal;rw[e,if_pos (by omega)]
 congr 1
 omega
theorem xQ(u:Nat):Lib.decFrom 0 (Lib.decDigits u)=some u:=by
 induction u using Nat.strongRecOn with
 |_ u ih=>
  rw[Lib.decDigits];split
  ·rename_i h
   rw[Lib.decFrom,CU h]
   show Lib.decFrom (0*10+u) []=_
   rw[Nat.zero_mul,Nat.zero_add]
   rfl
  ·rename_i h
   rw[tp _ _ _ _ _ (ih (u / 10) (by omega)) (CU (Nat.mod_lt u (by omega)))]
   congr 1
   omega
theorem A4(u:Nat):∀b∈Lib.decDigits u,48≤b.toNat∧b.toNat≤57:=by
 induction u using Nat.strongRecOn with
 |_ u ih=>
  have hb:∀d,d<10→48≤(UInt8.ofNat (48+d)).toNat∧(UInt8.ofNat (48+d)).toNat≤57:=fun d hd=>by
   have e:(UInt8.ofNat (48+d)).toNat=48+d:=by rw[UInt8.toNat_ofNat_of_lt'];show 48+d<256;omega
   omega
  rw[Lib.decDigits];split
  ·rename_i h
   intro b hm;rw[List.mem_singleton]at hm;subst hm;exact hb u h
  ·rename_i h
   intro b hm;rcases List.mem_append.1 hm with hm|hm
   ·exact ih (u / 10) (by omega) b hm
   ·rw[List.mem_singleton]at hm
    subst hm;exact hb _ (Nat.mod_lt u (by omega))
theorem zZ(u:Nat):Lib.decDigits u≠[]:=by
 rw[Lib.decDigits];split<;>simp
theorem A3:∀(k u:Nat),1≤k→u<10 ^ k→(Lib.decDigits u).length≤k
 |0,_,h,_=>by omega
 |k+1,u,_,h=>by
  rw[Lib.decDigits];split
  ·simp
  ·rename_i h10
   rw[List.length_append,List.length_singleton];by_cases hk:k=0
   ·subst hk;simp at h;omega
   ·have:=A3 k (u / 10) (by omega) (by rw[Nat.pow_succ]at h;omega)
    omega
theorem vg{n:Int}(h:0≤n):∀b∈(cJ n).data.toList,48≤b.toNat∧b.toNat≤57:=by
 show ∀b∈Lib.itoa n,_
 unfold Lib.itoa;rw[if_neg (by omega)];exact A4 _
theorem Cr{n:Int}(h:0≤n):(cJ n).data.toList≠[]:=by
 show Lib.itoa n≠[]
 unfold Lib.itoa;rw[if_neg (by omega)];exact zZ _
theorem Id{n:Int}(h:0≤n∧n<1000000000000000000):(cJ n).size≤18:=by
 rw[Bf]
 show (Lib.itoa n).length≤18
 unfold Lib.itoa;rw[if_neg (by omega)];exact A3 18 _ (by omega) (by omega)
theorem Gh{n:Int}(h:0≤n):Lib.atoi (cJ n).data.toList=some n:=by
 show Lib.atoi (Lib.itoa n)=some n
 unfold Lib.itoa;rw[if_neg (by omega)];have hin:=A4 n.toNat;have hd:=xQ n.toNat;have hne:=zZ n.toNat;generalize Lib.decDigits n.toNat=l at*;cases l with
 |nil=>exact absurd rfl hne
 |cons b r=>
  have hb:=hin b List.mem_cons_self;have h1:¬(b==45)=true:=fun e=>by rw[beq_iff_eq.1 e]at hb;exact absurd hb.1 (by decide)
  have h2:¬(b==43)=true:=fun e=>by rw[beq_iff_eq.1 e]at hb;exact absurd hb.1 (by decide)
  rw[Lib.atoi,if_neg h1,if_neg h2];unfold Lib.decNat;rw[if_neg (by simp),hd];simp only[Option.map_some,zj];omega
theorem oP{c:UInt8}{sep:ByteArray}(hs:c∉sep.data.toList):∀{xs:List ByteArray},(∀x∈xs,c∉x.data.toList)→c∉(be xs sep).data.toList
 | [],_=>by rw[qe];simp
 | [x],h=>by
  show c∉Lib.join [x.data.toList] sep.data.toList
  rw[join_one];exact h x List.mem_cons_self
 |x :: y :: l,h=>by
  have ih:=oP hs (xs:=y :: l) fun z hz=>h z (List.mem_cons_of_mem _ hz)
  have e:(be (x :: y :: l) sep).data.toList=x.data.toList++(sep.data.toList++(be (y :: l) sep).data.toList):=by
   show Lib.join _ _=_++(_++Lib.join _ _)
   simp [Lib.join,List.intercalate,List.intersperse]
  rw[e,List.mem_append,List.mem_append];rintro (h1|h1|h1)
  ·exact h x List.mem_cons_self h1
  ·exact hs h1
  ·exact ih h1
theorem Cq{n:Int}(h:0≤n){c:UInt8}(hc:c.toNat<48∨57<c.toNat):c∉(cJ n).data.toList:=fun hm=>by
 have:=vg h c hm;omega
end Go.Proofs.YtobhmajhachnaaaGreatDoor
