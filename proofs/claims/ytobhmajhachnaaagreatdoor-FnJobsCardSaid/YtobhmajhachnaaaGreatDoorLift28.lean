/-
 LIFT, part 28: slices of ints, tensors and rings as data; the contracts of the hand-made walks as contracts on data. No condition.
-/
import Derived.Test.YtobhmajhachnaaaGreatDoorLiftF
import Derived.Test.YtobhmajhachnaaaGreatDoorHandA
set_option linter.unusedSimpArgs false
set_option linter.unusedVariables false
namespace Go.Proofs.YtobhmajhachnaaaGreatDoor
open Go.RowKit Go.Lift
def topL(w:World):Labels:=fun b=>if b<w.heap.size then .im else .off
def aY(k p n:Int):AV:=.agg [.d (.int k),.d (.int p),.d (.int n)]
def tenA(t:Ten):AV:=.agg [.d (ints t.labels),.d (ints t.dims),.d (ints t.data)]
def ownT(k:Nat)(t:Ten):AV:=.agg [.own k 0 t.labels.length,.own (k+1) 0 t.dims.length,.own (k+2) 0 t.data.length]
def stoF(t:Ten):Sto:=[some ⟨1,false,iv t.labels⟩,some ⟨1,false,iv t.dims⟩,some ⟨1,false,iv t.data⟩]
def stoT(t:Ten):Sto:=[some ⟨1,true,iv t.labels⟩,some ⟨1,true,iv t.dims⟩,some ⟨1,true,iv t.data⟩]
section
variable {w : World} {γ : Labels} {φ : Nat → Nat} {s : St} {I : Nat → Prop} {xs : List Int}
theorem Ei:∀{xs:List Int} {b o:Nat},RdL w I (dv xs) b o↔∀j,j<xs.length→w.cell? ⟨b,o+j,none⟩=some (.int .i64 (xs.getD j 0))
 | [],b,o=>by simp [dv,RdL]
 |x :: l,b,o=>by
  have ih:= @Ei l b (o+1);simp only[dv,List.map_cons,RdL,Rd]at ih ⊢
  constructor
  ·rintro⟨⟨v,h1,rfl⟩,h2⟩ j hj
   cases j with
   |zero=>simpa using h1
   |succ j=>have:=ih.1 h2 j (by simpa using hj);simpa [Nat.add_assoc,Nat.add_comm 1 j]using this
  ·intro h
   refine⟨⟨_,by simpa using h 0 (by simp),rfl⟩,ih.2 fun j hj=> ?_⟩;have:=h (j+1) (by simpa using hj);simpa [Nat.add_assoc,Nat.add_comm 1 j]using this
theorem Rd.ok{v:Value}(h:Rd w (Im w γ) (ints xs) v)(hn:xs.length≤1099511627776)(hw:∀x∈xs,I64 x):∃A c,v=.slice A xs.length c∧SlOk w A xs.length c xs:=by
 simp only[ints,Rd]at h;obtain⟨A,c,rfl,hc,h⟩:=h;refine⟨A,c,rfl,⟨rfl,fun h0=> ?_⟩,hn,hc,hw⟩;rcases h with ⟨h,_⟩|⟨b,o,rfl,hb,h⟩
 ·omega
 ·exact⟨b,o,rfl,hb.1,Ei.1 h⟩
end
structure Sz(m:Nat)(xs:List Int):Prop where
 len:xs.length≤m
 wf:∀x∈xs,I64 x
structure TSz(m:Nat)(t:Ten):Prop where
 l:Sz m t.labels
 d:Sz m t.dims
 x:Sz m t.data
section
variable {w : World} {γ : Labels} {φ : Nat → Nat} {s : St} {m : Nat} {xs : List Int} {t : Ten}
theorem BN{v:Value}(h:Rel w γ φ s (.d (ints xs)) v)(hs:Sz 1099511627776 xs):∃A c,v=.slice A xs.length c∧SlOk w A xs.length c xs:=by
 rw[Rel]at h;exact Rd.ok h hs.len hs.wf
theorem bX{v:Value}{x:Int}(h:Rel w γ φ s (.d (.int x)) v):v=.int .i64 x:=by simpa only[Rel,Rd]using h
theorem rel1{a:AV}{vals:List Value}(h:RelL w γ φ s [a] vals):∃v,vals=[v]∧Rel w γ φ s a v:=by
 simp only[RelL]at h;obtain⟨v,_,rfl,h,rfl⟩:=h;exact⟨v,rfl,h⟩
theorem rel2{a b:AV}{vals:List Value}(h:RelL w γ φ s [a,b] vals):∃v u,vals=[v,u]∧Rel w γ φ s a v∧Rel w γ φ s b u:=by
 simp only[RelL]at h;obtain⟨v,_,rfl,h,u,_,rfl,h',rfl⟩:=h;exact⟨v,u,rfl,h,h'⟩
theorem M6(x:Int):∀w γ φ s,Rel w γ φ s (.d (.int x)) (.int .i64 x):=fun w γ φ s=>by simp only[Rel,Rd]
end
def Eu(xs:List Int)(k:Int):List Int:=(List.range xs.length).map fun (i:Nat)=>k+(i:Int)
def Lg(t:Ten)(m:Int):Ten:=⟨Eu t.labels m,Eu t.dims (m+t.labels.length),Eu t.data (m+t.labels.length+t.dims.length)⟩
theorem SlIn.size{w:World}{A:Option Addr}{n c:Nat}{xs:List Int}(h:SlIn w A n c xs):Sz 9223372036854775807 xs:=⟨by rw[h.1.1];exact h.2,h.4⟩
attribute [go_sem] ownT stoT stoF tenA aY Lg
end Go.Proofs.YtobhmajhachnaaaGreatDoor
namespace Go.Proofs.YtobhmajhachnaaaGreatDoor
theorem Sz.up{m:Nat}{xs:List Int}(h:Sz 1048576 xs)(hm:1048576≤m:=by omega):Sz m xs:=⟨Nat.le_trans h.len hm,h.wf⟩
theorem TSz.up{m:Nat}{t:Ten}(h:TSz 1048576 t)(hm:1048576≤m:=by omega):TSz m t:=⟨h.l.up hm,h.d.up hm,h.x.up hm⟩
def mix(l r:List Int)(k:Nat):List Int:=l.take k++r.drop k
section
variable {l r : List Int} {k : Nat}
theorem cA:mix l r 0=r:=by simp [mix]
theorem ji(h:r.length≤k)(h':l.length≤k):mix l r k=l:=by simp [mix,List.drop_eq_nil_of_le h,zt h']
theorem kD(h:l.length=r.length):(mix l r k).length=l.length:=by simp [mix];omega
theorem gE{x:Int}(h:l.length=r.length)(hx:l[k]? =some x):(mix l r k).take k++[x]++(mix l r k).drop (k+1)=mix l r (k+1):=by
 have hk:k<l.length:=(List.getElem?_eq_some_iff.1 hx).1;have e:x=l[k]:=by rw[zg hk]at hx;simpa using hx.symm
 subst e;unfold mix;rw[List.take_append_of_le_length (by simp;omega),zt (by simp;omega),List.drop_append,List.drop_eq_nil_of_le (by simp;omega),List.nil_append,List.drop_drop,List.take_succ_eq_append_getElem hk,
  List.append_assoc,List.append_assoc,List.length_take,show k+(k+1-min k l.length)=k+1 by omega]
theorem Et(h:l.length=r.length){i:Nat}:(mix l r k)[i]? =if i<k then l[i]? else r[i]? :=by
 unfold mix;split
 ·rename_i h1
  by_cases h2:i<l.length
  ·rw[List.getElem?_append_left (by simp;omega),List.getElem?_take,if_pos h1]
  ·rw[List.getElem?_append_right (by simp;omega),List.getElem?_drop,List.getElem?_eq_none (by simp;omega),List.getElem?_eq_none (by omega)]
 ·by_cases h2:i<l.length
  ·rw[List.getElem?_append_right (by simp;omega),List.getElem?_drop,List.length_take]
   congr 1
   omega
  ·rw[List.getElem?_eq_none (by simp;omega),List.getElem?_eq_none (by omega)]
theorem cW{n:Nat}{x:Int}{xs:List Int}(h:n<xs.length):xs.take n++[x]++xs.drop (n+1)=xs.set n x:=by
 rw[List.set_eq_take_append_cons_drop,if_pos h,List.append_assoc]
 rfl
end
end Go.Proofs.YtobhmajhachnaaaGreatDoor
namespace Go.Proofs.YtobhmajhachnaaaGreatDoor
open Plain
theorem ba{α:Type}{xs:List α}{k:Nat}(h:k<xs.length):xs.take (k+1)=xs.take k++[xs[k]]:=List.take_succ_eq_append_getElem h
theorem dR{α:Type}{xs:List α}{k:Nat}{p:α→Bool}(h:k<xs.length)(hp:p xs[k]=true):(xs.take (k+1)).filter p=(xs.take k).filter p++[xs[k]]:=by
 rw[ba h,List.filter_append];simp [hp]
theorem dy{α:Type}{xs:List α}{k:Nat}{p:α→Bool}(h:k<xs.length)(hp:p xs[k]=false):(xs.take (k+1)).filter p=(xs.take k).filter p:=by
 rw[ba h,List.filter_append];simp [hp]
theorem dS{α:Type}(xs:List α)(k:Nat)(p:α→Bool):((xs.take k).filter p).length≤xs.length:=by
 have:=List.length_filter_le p (xs.take k);have:=List.length_take_le k xs;simp at*;omega
theorem ac{xs:List Int}{k:Nat}(h:k<xs.length):xs.getD k 0=xs[k]:=by simp [h]
theorem ez{xs:List Int}{k:Nat}(hk:k<xs.length)(h:xs[k]∉xs.take k):place xs xs[k]=k:=by
 have:=Fj (xs:=xs) (k:=k) hk (by rw[ac hk];exact h)
 rwa [ac hk]at this
theorem eU{xs:List Int}{x:Int}(h:x∈xs):∃k:Nat,∃hk:k<xs.length,place xs x=k∧xs[k]=x∧x∉xs.take k:=by
 refine⟨xs.idxOf x,List.idxOf_lt_length_of_mem h,by simp [place,h],List.getElem_idxOf _,fun hm=> ?_⟩;have h1:xs.idxOf x=(xs.take (xs.idxOf x)++xs.drop (xs.idxOf x)).idxOf x:=by rw[List.take_append_drop]
 rw[List.idxOf_append,if_pos hm]at h1;have h2:=List.idxOf_lt_length_of_mem hm;rw[List.length_take]at h2;omega
theorem mX{xs:List Int}{k:Nat}{x:Int}(h:k<xs.length)(h1:x∉xs.take k)(h2:x≠xs[k]):x∉xs.take (k+1):=by
 rw[ba h,List.mem_append];simp [h1,h2]
def ao(t:Ten)(l:Int):Int:=t.dims.getD (place t.labels l).toNat 0
def aF(a b:List Int):List Int:=a++b.filter fun x=> !has a x
def aB(a b:Ten):List Int:=(aF a.labels b.labels).map fun l=>if has a.labels l=true then ao a l else ao b l
def gZ(a b:Ten):Bool:=(aF a.labels b.labels).all fun l=> !(has a.labels l&&has b.labels l&&ao a l !=ao b l)
theorem Plain.axOk.len{ls ds:List Int}(h:axOk ls ds):ls.length=ds.length:=h.2.1
theorem Plain.axOk.fresh{ls ds:List Int}(h:axOk ls ds){k:Nat}(hk:k<ls.length):ls[k]∉ls.take k:=by
 have:=(h.2.2 k hk).2.2.2.2
 rwa [ac hk]at this
theorem cH{t:Ten}(h:t.labels.length=t.dims.length){l:Int}(hl:l∈t.labels):∃i:Nat,i<t.labels.length∧i<t.dims.length∧place t.labels l=i∧t.dims[i]? =some (ao t l):=by
 obtain⟨i,hi,e,_,_⟩:=eU hl;refine⟨i,hi,by omega,e, ?_⟩;have hi':i<t.dims.length:=by omega
 simp [ao,e,hi']
theorem gJ{t:Ten}(h:axOk t.labels t.dims){k:Nat}(hk:k<t.labels.length)(hk':k<t.dims.length):ao t t.labels[k]=t.dims[k]:=by
 simp [ao,ez hk (h.fresh hk),hk']
theorem mc{t:Ten}(h:axOk t.labels t.dims):t.labels.map (ao t)=t.dims:=by
 refine List.ext_getElem (by simp [h.len]) fun k h1 h2=> ?_
 rw[List.getElem_map];exact gJ h (by simpa using h1) h2
theorem bm{a b:List Int}{x:Int}:x∈aF a b↔x∈a∨x∈b:=by
 simp only[aF,List.mem_append,List.mem_filter,Bool.not_eq_true',aI];by_cases h:x∈a<;>simp [h]
theorem qd(a b:List Int):(aF a b).length≤a.length+b.length:=by
 have:=List.length_filter_le (fun x=> !has a x) b;simp [aF];omega
theorem cg{t:Ten}(h:axOk t.labels t.dims){l:Int}(hl:l∈t.labels):1≤ao t l∧ao t l≤8:=by
 obtain⟨i,_,hi,_,e⟩:=cH h.len hl;rw[zg hi]at e;simp at e;rw[← e];exact h.dim _ (List.getElem_mem _)
theorem sW{a b:Ten}(ha:axOk a.labels a.dims)(hb:axOk b.labels b.dims):∀d∈aB a b,1≤d∧d≤8:=by
 intro d hd;simp only[aB,List.mem_map]at hd;obtain⟨l,hl,rfl⟩:=hd;split
 ·rename_i h
  exact cg ha (aQ.1 h)
 ·rename_i h
  have h':l∉a.labels:=fun hm=>h (aQ.2 hm)
  exact cg hb ((bm.1 hl).resolve_left h')
def Dv(a b:Ten)(k:Nat):List Int:=a.dims++((b.labels.take k).filter fun x=> !has a.labels x).map (ao b)
theorem Ib{a b:Ten}(ha:axOk a.labels a.dims):aB a b=Dv a b b.labels.length:=by
 rw[aB,aF,List.map_append,Dv,List.take_length]
 congr 1
 ·refine Eq.trans (List.map_congr_left fun l hl=> ?_) (mc ha)
  rw[if_pos (aQ.2 hl)]
 ·refine List.map_congr_left fun l hl=> ?_
  simp only[List.mem_filter,Bool.not_eq_true']at hl;rw[if_neg (by rw[hl.2];simp)]
theorem vA{ls:List Int}{f:Int→Int}(h:∀l∈ls,1≤f l)(p:Int→Bool):aa ((ls.filter p).map f)≤aa (ls.map f):=by
 induction ls with
 |nil=>simp
 |cons x l ih=>
  have ih:=ih fun y hy=>h y (List.mem_cons_of_mem _ hy)
  have hx:=h x List.mem_cons_self;have hp:1≤aa (l.map f):=aW _ fun d hd=>by
   obtain⟨y,hy,rfl⟩:=List.mem_map.1 hd;exact h y (List.mem_cons_of_mem _ hy)
  rw[List.map_cons,bi];have h1:1*aa (l.map f)≤f x*aa (l.map f):=Int.mul_le_mul_of_nonneg_right hx (by omega);by_cases hpx:p x=true
  ·rw[List.filter_cons_of_pos hpx,List.map_cons,bi]
   exact Int.mul_le_mul_of_nonneg_left ih (by omega)
  ·rw[List.filter_cons_of_neg hpx]
   omega
theorem xA{a b:Ten}(ha:axOk a.labels a.dims)(hb:axOk b.labels b.dims)(pa:aa a.dims≤4096)(pb:aa b.dims≤4096):1≤aa (aB a b)∧aa (aB a b)≤16777216:=by
 refine⟨aW _ fun d hd=>(sW ha hb d hd).1, ?_⟩;rw[Ib ha,Dv,List.take_length,dZ];have h1:=vA (ls:=b.labels) (f:=ao b) (fun l hl=>(cg hb hl).1) (fun x=> !has a.labels x);rw[mc hb]at h1;have h2:1≤aa a.dims:=aW _ fun d hd=>(ha.dim d hd).1
 have h3:0≤aa ((b.labels.filter fun x=> !has a.labels x).map (ao b)):=by
  have:=aW ((b.labels.filter fun x=> !has a.labels x).map (ao b)) fun d hd=>by
   obtain⟨y,hy,rfl⟩:=List.mem_map.1 hd
   exact(cg hb (List.mem_filter.1 hy).1).1
  omega
 calc aa a.dims*aa ((b.labels.filter fun x=> !has a.labels x).map (ao b))≤4096*4096:=Int.mul_le_mul pa (by omega) h3 (by omega)
  _=16777216:=by decide
theorem FR{a b:Ten}{l:Int}(h1:l∈a.labels)(h2:l∈b.labels)(h:ao a l≠ao b l):gZ a b=false:=by
 rw[gZ,List.all_eq_false];exact⟨l,bm.2 (.inl h1),by simp [aQ.2 h1,aQ.2 h2,h]⟩
theorem Dw{a b:Ten}(h:∀l,l∈a.labels→l∈b.labels→ao a l=ao b l):gZ a b=true:=by
 rw[gZ,List.all_eq_true];intro l _;by_cases h1:l∈a.labels
 ·by_cases h2:l∈b.labels
  ·simp [h l h1 h2]
  ·simp [aI.2 h2]
 ·simp [aI.2 h1]
theorem xy{a b:Ten}(h:gZ a b=true){l:Int}(h1:l∈a.labels)(h2:l∈b.labels):ao a l=ao b l:=by
 by_cases e:ao a l=ao b l
 ·exact e
 ·rw[FR h1 h2 e]at h;cases h
def sy(r:Rg)(out:List Int)(i j:Nat)(a b:Int):List Int:=
 if i+j<out.length then out.set (i+j) ((out.getD (i+j) 0+a*b).tmod r.p)
 else if r.k=8 then out.set (i+j-4) ((out.getD (i+j-4) 0+(r.p-a)*b).tmod r.p) else out
def bR(r:Rg)(y:List Int)(i:Nat)(a:Int)(out:List Int):Nat→List Int
 |0=>out
 |j+1=>sy r (bR r y i a out j) i j a (y.getD j 0)
def de(r:Rg)(x y out:List Int):Nat→List Int
 |0=>out
 |i+1=>bR r y i (x.getD i 0) (de r x y out i) y.length
def AS(r:Rg)(out:List Int)(i j:Nat)(a b:Int):List Int:=
 if i+j<out.length then out.set (i+j) ((out.getD (i+j) 0+(a*b).tmod r.p).tmod r.p)
 else if r.k=8 then out.set (i+j-4) ((out.getD (i+j-4) 0+r.p-(a*b).tmod r.p).tmod r.p) else out
def m7(r:Rg)(y:List Int)(i:Nat)(a:Int)(out:List Int):Nat→List Int
 |0=>out
 |j+1=>AS r (m7 r y i a out j) i j a (y.getD j 0)
def Dy(r:Rg)(x y out:List Int):Nat→List Int
 |0=>out
 |i+1=>m7 r y i (x.getD i 0) (Dy r x y out i) y.length
def lowP(p:Int)(xs:List Int):Prop:=∀k,k<xs.length→0≤xs.getD k 0∧xs.getD k 0<p
theorem lowP.at{p:Int}{xs:List Int}(h:lowP p xs)(hp:0<p)(k:Nat):0≤xs.getD k 0∧xs.getD k 0<p:=by
 by_cases hk:k<xs.length
 ·exact h k hk
 ·simp [zq,List.getElem?_eq_none (Nat.le_of_not_lt hk),hp]
theorem lowP.mem{p:Int}{xs:List Int}(h:lowP p xs):∀x∈xs,0≤x∧x<p:=by
 intro x hx;obtain⟨k,hk,rfl⟩:=List.getElem_of_mem hx;have:=h k hk;simpa [zq,hk]using this
theorem lowP.set{p:Int}{xs:List Int}{n:Nat}{v:Int}(h:lowP p xs)(hv:0≤v∧v<p):lowP p (xs.set n v):=by
 intro k hk;have hk':k<xs.length:=by simpa using hk
 rw[zq,List.getElem?_set];split
 ·split
  ·simpa using hv
  ·simp;omega
 ·exact h k hk'
theorem oE{p:Int}(hp:0<p)(n:Nat):lowP p (List.replicate n 0):=by
 intro k hk;simp [zq];have:k<n:=by simpa using hk
 simp [this,hp]
theorem AB{a b p:Int}(ha:0≤a∧a<p)(hb:0≤b∧b<p)(hp:p≤1000003):0≤a*b∧a*b≤1000006000009:=by
 refine⟨Int.mul_nonneg ha.1 hb.1, ?_⟩;have h1:a*b≤a*1000003:=Int.mul_le_mul_of_nonneg_left (by omega) ha.1;omega
theorem tm{a p:Int}(h:0≤a):a.tmod p=a % p:=Int.tmod_eq_emod_of_nonneg h
theorem tmb{a p:Int}(h:0≤a)(hp:0<p):0≤a.tmod p∧a.tmod p<p:=by
 rw[tm h];exact⟨Int.emod_nonneg _ (by omega),Int.emod_lt_of_pos _ hp⟩
theorem HN{r:Rg}{out:List Int}{i j:Nat}{a b:Int}(hp:2≤r.p∧r.p≤1000003)(ho:lowP r.p out)(ha:0≤a∧a<r.p)(hb:0≤b∧b<r.p):
  AS r out i j a b=sy r out i j a b∧lowP r.p (sy r out i j a b)∧(sy r out i j a b).length=out.length:=by
 have hab:=AB ha hb hp.2;have hm:=tmb hab.1 (show 0<r.p by omega);have h1:=ho.at (by omega) (i+j);have h2:=ho.at (by omega) (i+j-4);have hpa:0≤(r.p-a)*b:=Int.mul_nonneg (by omega) hb.1;unfold AS sy;refine⟨?_, ?_, ?_⟩
 ·split
  ·congr 1
   rw[tm hab.1]at hm ⊢;rw[tm (show 0≤out.getD (i+j) 0+a*b % r.p by omega),tm (show 0≤out.getD (i+j) 0+a*b by omega)];rw[Int.add_emod,Int.emod_emod_of_dvd _ (Int.dvd_refl _), ← Int.add_emod]
  ·split
   ·congr 1
    rw[tm hab.1]at hm ⊢;rw[tm (show 0≤out.getD (i+j-4) 0+r.p-a*b % r.p by omega),tm (show 0≤out.getD (i+j-4) 0+(r.p-a)*b by omega)];have e:(r.p-a)*b=r.p*b-a*b:=Int.sub_mul ..;rw[e];have e1:out.getD (i+j-4) 0+r.p-a*b % r.p=out.getD (i+j-4) 0+(r.p-a*b % r.p):=by omega
    have e2:out.getD (i+j-4) 0+(r.p*b-a*b)=(out.getD (i+j-4) 0-a*b)+r.p*b:=by omega
    rw[e1,e2,Int.add_mul_emod_self_left];have e3:out.getD (i+j-4) 0+(r.p-a*b % r.p)=(out.getD (i+j-4) 0-a*b % r.p)+r.p*1:=by omega
    rw[e3,Int.add_mul_emod_self_left,Int.sub_emod,Int.emod_emod_of_dvd _ (Int.dvd_refl _), ← Int.sub_emod]
   ·rfl
 ·split
  ·exact ho.set (tmb (by omega) (by omega))
  ·split
   ·exact ho.set (tmb (by omega) (by omega))
   ·exact ho
 ·split
  ·simp
  ·split<;>simp
theorem gD{r:Rg}{y out:List Int}{i:Nat}{a:Int}(hp:2≤r.p∧r.p≤1000003)(ho:lowP r.p out)(ha:0≤a∧a<r.p)(hy:lowP r.p y):
  ∀j,m7 r y i a out j=bR r y i a out j∧lowP r.p (bR r y i a out j)∧(bR r y i a out j).length=out.length
 |0=>⟨rfl,ho,rfl⟩
 |j+1=>by
  obtain⟨h1,h2,h3⟩:=gD hp ho ha hy j;obtain⟨h4,h5,h6⟩:=HN (i:=i) (j:=j) hp h2 ha (hy.at (by omega) j);refine⟨?_,h5,h6.trans h3⟩;rw[m7,h1,h4];rfl
theorem m4{r:Rg}{x y out:List Int}(hp:2≤r.p∧r.p≤1000003)(ho:lowP r.p out)(hx:lowP r.p x)(hy:lowP r.p y):
  ∀i,Dy r x y out i=de r x y out i∧lowP r.p (de r x y out i)∧(de r x y out i).length=out.length
 |0=>⟨rfl,ho,rfl⟩
 |i+1=>by
  obtain⟨h1,h2,h3⟩:=m4 hp ho hx hy i;obtain⟨h4,h5,h6⟩:=gD (i:=i) hp h2 (hx.at (by omega) i) hy y.length;refine⟨?_,h5,h6.trans h3⟩;rw[Dy,h1,h4];rfl
def andI(a b:Int):Int:=IntKind.i64.wrap (BitVec.ofInt 64 a&&& BitVec.ofInt 64 b).toNat
def orI(a b:Int):Int:=IntKind.i64.wrap (BitVec.ofInt 64 a||| BitVec.ofInt 64 b).toNat
def mulE(r:Rg)(x y:List Int):List Int:=
 if r.k=1∨r.k=5 then [min (x.getD 0 0) (y.getD 0 0)]
 else if r.k=2 then [(x.getD 0 0*y.getD 0 0).tmod r.p]
 else if r.k=3 then [min (x.getD 0 0*y.getD 0 0) r.p]
 else if r.k=4 then [min (x.getD 0 0+y.getD 0 0) r.p]
 else if r.k=6 then [andI (x.getD 0 0) (y.getD 0 0)]
 else de r x y (List.replicate x.length 0) x.length
theorem Jj(x:Int):I64 (IntKind.i64.wrap x):=by
 rw[IntKind.wrap_i64];constructor<;>omega
theorem L5{a b:Int}(ha:0≤a∧a≤1)(hb:0≤b∧b≤1):andI a b=min a b:=by
 have h1:a=0∨a=1:=by omega
 have h2:b=0∨b=1:=by omega
 rcases h1 with rfl|rfl<;>rcases h2 with rfl|rfl<;>decide
theorem Md{a b:Int}(ha:0≤a∧a≤1)(hb:0≤b∧b≤1):orI a b=max a b:=by
 have h1:a=0∨a=1:=by omega
 have h2:b=0∨b=1:=by omega
 rcases h1 with rfl|rfl<;>rcases h2 with rfl|rfl<;>decide
theorem bG{r:Rg}{x:List Int}(hr:ai r=true)(h:fits r x)(hk:r.k=2∨r.k=7∨r.k=8):lowP r.p x∧2≤r.p∧r.p≤1000003:=by
 have ht:top r=r.p-1:=by unfold top;rw[if_neg (by omega),if_neg (by omega),if_neg (by omega)]
 have hp:2≤r.p∧r.p≤1000003:=by rcases aO hr with h|h|h|h|h|h|h|h<;>first|omega|exact bU h.2.1
 exact⟨fun k hk=>by have:=h k hk;omega,hp⟩
theorem oV{r:Rg}(hr:ai r=true)(hk:¬(r.k=7∨r.k=8)):af r=1:=by
 unfold af;rw[if_neg (by omega),if_neg (by omega)]
theorem fV{r:Rg}{x y:List Int}{wd:Nat}(hr:ai r=true)(hw:af r=wd)(hx:fits r x)(hy:fits r y)(lx:x.length=wd)(ly:y.length=wd):(mulE r x y).length=wd∧∀z∈mulE r x y,I64 z:=by
 have hwb:=cm hr;have htb:=dA hr;have x0:=hx 0 (by omega);have y0:=hy 0 (by omega);unfold mulE;by_cases h7:r.k=7∨r.k=8
 ·rw[if_neg (by omega),if_neg (by omega),if_neg (by omega),if_neg (by omega),if_neg (by omega)]
  obtain⟨hlx,hp⟩:=bG hr hx (by omega);obtain⟨hly,_⟩:=bG hr hy (by omega);obtain⟨_,h1,h2⟩:=m4 hp (oE (by omega) x.length) hlx hly x.length;refine⟨by rw[h2];simpa using lx,fun z hz=> ?_⟩;have:=h1.mem z hz;exact⟨by omega,by omega⟩
 ·have hw1:=oV hr h7
  have hwd:wd=1:=by omega
  subst hwd;have hmm:0≤x.getD 0 0*y.getD 0 0:=Int.mul_nonneg x0.1 y0.1;have hmb:x.getD 0 0*y.getD 0 0≤x.getD 0 0*1048576:=Int.mul_le_mul_of_nonneg_left (by omega) x0.1;split
  ·exact⟨rfl,fun z hz=>by simp only[List.mem_singleton]at hz;subst hz;exact⟨by omega,by omega⟩⟩
  ·split
   ·refine⟨rfl,fun z hz=> ?_⟩
    simp only[List.mem_singleton]at hz;obtain⟨_,hp⟩:=bG hr hx (by omega);have:=tmb hmm (show 0<r.p by omega);subst hz;exact⟨by omega,by omega⟩
   ·have hp:r.k=3∨r.k=4→1≤r.p∧r.p≤1000000:=fun h=>by rcases aO hr with h|h|h|h|h|h|h|h<;>omega
    split
    ·refine⟨rfl,fun z hz=> ?_⟩
     simp only[List.mem_singleton]at hz;have:=hp (.inl (by assumption));subst hz;exact⟨by omega,by omega⟩
    ·split
     ·refine⟨rfl,fun z hz=> ?_⟩
      simp only[List.mem_singleton]at hz;have:=hp (.inr (by assumption));subst hz;exact⟨by omega,by omega⟩
     ·rw[if_pos (by rcases aO hr with h|h|h|h|h|h|h|h<;>omega)]
      refine⟨rfl,fun z hz=> ?_⟩;simp only[List.mem_singleton]at hz;subst hz;exact Jj _
def sumI(xs:List Int):Int:=xs.foldr (· + ·) 0
theorem fN(x:Int)(xs:List Int):sumI (x :: xs)=x+sumI xs:=rfl
theorem rV{α:Type}(f g:α→Int):∀(l:List α),sumI (l.map fun x=>f x+g x)=sumI (l.map f)+sumI (l.map g)
 | []=>rfl
 |x :: l=>by simp only[List.map_cons,fN,rV f g l];omega
theorem lE{α:Type}(f:α→Int):∀(l:List α),(∀x∈l,f x=0)→sumI (l.map f)=0
 | [],_=>rfl
 |x :: l,h=>by simp only[List.map_cons,fN,h x (by simp),lE f l (fun y hy=>h y (by simp [hy]))];rfl
theorem rU(c l0:Int):∀(l:List Int),l.Nodup→l0∈l→sumI (l.map fun x=>if x=l0 then c else 0)=c
 | [],_,h=>by cases h
 |x :: l,hn,hm=>by
  simp only[List.nodup_cons]at hn;simp only[List.map_cons,fN];by_cases hx:x=l0
  ·subst hx
   rw[if_pos rfl,lE _ l (fun y hy=>if_neg fun (e:y=x)=>hn.1 (e ▸ hy))];omega
  ·rw[if_neg hx,rU c l0 l hn.2 (by simpa [Ne.symm hx]using hm)]
   omega
def ah:List Int→List Int→Int→Int
 |l :: ls,d :: ds,x=>if x=l then aa ds else ah ls ds x
 |_,_,_=>0
theorem re:∀(ls ds:List Int) (x:Int),x∉ls→ah ls ds x=0
 | [],_,_,_=>by simp [ah]
 |_ :: _,[],_,_=>by simp [ah]
 |l :: ls,d :: ds,x,h=>by
  simp only[List.mem_cons,not_or]at h;rw[ah,if_neg h.1,re ls ds x h.2]
theorem mP:∀(ls ds:List Int) (x:Int),(∀d∈ds,1≤d)→0≤ah ls ds x∧ah ls ds x≤aa ds
 | [],ds,_,h=>by
  simp only[ah];have:=aW ds h;omega
 |_ :: _,[],_,_=>by simp [ah,aa]
 |l :: ls,d :: ds,x,h=>by
  have hp:=aW ds (fun y hy=>h y (by simp [hy]));have hd:=h d (by simp);have hm:aa ds≤d*aa ds:=by
   have:=Int.mul_le_mul_of_nonneg_right hd (show 0≤aa ds by omega);omega
  have:=mP ls ds x (fun y hy=>h y (by simp [hy]));rw[ah,bi];split<;>omega
def kB:List Int→List Int→Int
 |d :: ds,i :: is=>i*aa ds+kB ds is
 |_,_=>0
theorem Mf{ds is:List Int}(h:is.length=ds.length):offs ds is=kB ds is:=by
 have key:∀k,k≤ds.length→eM ds is k*aa (ds.drop k)+kB (ds.drop k) (is.drop k)=kB ds is:=by
  intro k
  induction k with
  |zero=>intro _;simp [eM]
  |succ k ih=>
   intro hk;rw[← ih (by omega),oB];have e1:ds.drop k=ds[k] :: ds.drop (k+1):=List.drop_eq_getElem_cons (by omega);have e2:is.drop k=is[k] :: is.drop (k+1):=List.drop_eq_getElem_cons (by omega);rw[e1,e2,kB,bi,ac (show k<ds.length by omega),ac (show k<is.length by omega),Int.add_mul,Int.mul_assoc];omega
 have:=key ds.length (Nat.le_refl _);rw[← this];simp [offs,aa,kB]
theorem z8(v:Int→Int)(L:List Int)(hL:L.Nodup):∀(ls ds:List Int),ls.length=ds.length→ls.Nodup→(∀l∈ls,l∈L)→kB ds (ls.map v)=sumI (L.map fun l=>ah ls ds l*v l)
 | [],[],_,_,_=>by simp only[List.map_nil,kB,ah,Int.zero_mul];exact(lE _ _ (fun _ _=>rfl)).symm
 | [],_ :: _,h,_,_=>by simp at h
 |_ :: _,[],h,_,_=>by simp at h
 |l0 :: ls,d :: ds,h,hn,hs=>by
  simp only[List.nodup_cons]at hn;simp only[List.map_cons,kB];rw[z8 v L hL ls ds (by simpa using h) hn.2 (fun l hl=>hs l (by simp [hl]))];rw[← rU (v l0*aa ds) l0 L hL (hs l0 (by simp)), ← rV]
  congr 1
  refine List.map_congr_left fun l _=> ?_
  by_cases e:l=l0
  ·subst e
   rw[ah,if_pos rfl,if_pos rfl,re ls ds l hn.1];rw[Int.mul_comm];omega
  ·rw[ah,if_neg e,if_neg e];omega
theorem fp{ls:List Int}(h:∀k (hk:k<ls.length),ls[k]∉ls.take k):ls.Nodup:=by
 rw[List.Nodup,List.pairwise_iff_getElem];intro i j hi hj hij e;refine h j hj ?_;rw[← e];exact List.mem_iff_getElem.2 ⟨i,by simp;omega,by simp⟩
theorem bE{ls ds:List Int}(h:axOk ls ds):ls.Nodup:=fp fun k hk=>h.fresh hk
def dotI:List Int→List Int→Int
 |a :: xs,b :: ys=>a*b+dotI xs ys
 |_,_=>0
theorem xL(f g:Int→Int):∀L:List Int,dotI (L.map f) (L.map g)=sumI (L.map fun l=>f l*g l)
 | []=>rfl
 |l :: L=>by simp only[List.map_cons,dotI,fN,xL f g L]
theorem zP:∀(xs ys:List Int) (a b:Int),xs.length=ys.length→dotI (xs++[a]) (ys++[b])=dotI xs ys+a*b
 | [],[],a,b,_=>by simp [dotI]
 | [],_ :: _,_,_,h=>by simp at h
 |_ :: _,[],_,_,h=>by simp at h
 |x :: xs,y :: ys,a,b,h=>by
  simp only[List.cons_append,dotI];rw[zP xs ys a b (by simpa using h)];omega
def atL(L xs:List Int)(l:Int):Int:=xs.getD (place L l).toNat 0
theorem KZ{L xs:List Int}(hn:L.Nodup)(h:xs.length=L.length):L.map (atL L xs)=xs:=by
 refine List.ext_getElem (by simp [h]) fun k h1 h2=> ?_
 have hk:k<L.length:=by simpa using h1
 have hf:L[k]∉L.take k:=by
  intro hm;obtain⟨i,hi,e⟩:=List.mem_iff_getElem.1 hm;have hi':i<k:=by simp at hi;omega
  simp at e
  exact(List.pairwise_iff_getElem.1 hn) i k (by omega) hk hi' e
 simp only[List.getElem_map,atL,ez hk hf,Int.toNat_natCast];exact ac (by omega)
theorem DR(n:Int):ab [] n=[]:=rfl
theorem bN(d:Int)(ds:List Int)(n:Int):ab (d :: ds) n=((n / aa ds) % d) :: ab ds n:=by
 simp only[ab,Zl,List.range_succ_eq_map,List.map_cons,List.map_map];have h0:p5 (d :: ds) n 0=n / aa ds % d:=by simp [p5]
 rw[h0]
 congr 1
theorem g8:∀(ds:List Int) (n:Int),(∀d∈ds,1≤d)→∀k,k<ds.length→0≤(ab ds n).getD k 0∧(ab ds n).getD k 0<ds.getD k 0
 | [],_,_,k,hk=>by simp at hk
 |d :: ds,n,h,0,_=>by
  have hd:=h d (by simp);rw[bN];simp only[List.getD_cons_zero];exact⟨Int.emod_nonneg _ (by omega),Int.emod_lt_of_pos _ (by omega)⟩
 |d :: ds,n,h,k+1,hk=>by
  rw[bN];simp only[List.getD_cons_succ];exact g8 ds n (fun y hy=>h y (by simp [hy])) k (by simpa using hk)
theorem IK{n p:Int}(hp:0<p)(h:(n+1) % p≠0):(n+1) / p=n / p:=by
 have h1:=Int.emod_add_mul_ediv (n+1) p;have h2:=Int.emod_nonneg (n+1) (show p≠0 by omega);have h3:=Int.emod_lt_of_pos (n+1) hp;have e:n=(n+1) % p-1+p*((n+1) / p):=by omega
 have h4:n / p=((n+1) % p-1+p*((n+1) / p)) / p:=congrArg (· / p) e;rw[Int.add_mul_ediv_left _ _ (show p≠0 by omega),Int.ediv_eq_zero_of_lt (show 0≤(n+1) % p-1 by omega) (by omega)]at h4;omega
theorem CO{n p:Int}(hp:0<p)(h:(n+1) % p=0):(n+1) / p=n / p+1:=by
 have h1:=Int.emod_add_mul_ediv (n+1) p;have e:n=p-1+p*((n+1) / p-1):=by rw[Int.mul_sub];omega
 have h4:n / p=(p-1+p*((n+1) / p-1)) / p:=congrArg (· / p) e;rw[Int.add_mul_ediv_left _ _ (show p≠0 by omega),Int.ediv_eq_zero_of_lt (show 0≤p-1 by omega) (by omega)]at h4;omega
theorem vp:∀(ds:List Int) (n:Int) (i:Nat),(∀d∈ds,1≤d)→(n+1) % aa (ds.drop i)≠0→i≤ds.length→(ab ds (n+1)).take i=(ab ds n).take i
 |_,_,0,_,_,_=>by simp
 | [],_,i+1,_,_,h=>by simp at h
 |d :: ds,n,i+1,h,hn,hi=>by
  have hds:∀d∈ds,1≤d:=fun y hy=>h y (by simp [hy])
  have hp:=aW ds hds;simp only[List.drop_succ_cons]at hn;have hne:(n+1) % aa ds≠0:=by
   intro e;refine hn ?_;have hdvd:aa (ds.drop i) ∣ aa ds:=by
    have:=dZ (ds.take i) (ds.drop i);rw[List.take_append_drop]at this;rw[this];exact Int.dvd_mul_left _ _
   exact Int.emod_eq_zero_of_dvd (Int.dvd_trans hdvd (Int.dvd_of_emod_eq_zero e))
  rw[bN,bN,List.take_succ_cons,List.take_succ_cons,IK (by omega) hne,vp ds n i hds hn (by simpa using hi)]
theorem CT{ds:List Int}{n:Int}{i:Nat}(h:∀d∈ds,1≤d)(hi:i<ds.length)(hw:(n+1) % aa (ds.drop (i+1))=0):
  ((ab ds n).getD i 0+1<ds.getD i 0→(n+1) % aa (ds.drop i)≠0∧(ab ds (n+1)).getD i 0=(ab ds n).getD i 0+1)∧
  (¬(ab ds n).getD i 0+1<ds.getD i 0→(n+1) % aa (ds.drop i)=0∧(ab ds (n+1)).getD i 0=0):=by
 have e:ds.drop i=ds[i] :: ds.drop (i+1):=List.drop_eq_getElem_cons hi;have hdi:=h ds[i] (List.getElem_mem hi);have hP:=aW (ds.drop (i+1)) (fun y hy=>h y (List.mem_of_mem_drop hy));have g:∀m,(ab ds m).getD i 0=(m / aa (ds.drop (i+1))) % ds[i]:=fun m=>by
  rw[eP _ _ _ hi,p5,ac hi]
 rw[g,g,ac hi,e,bi,CO (by omega) hw];generalize hP':aa (ds.drop (i+1))=P at*;generalize ds[i]=d at*;have hq:=CO (n:=n) (p:=P) (by omega) hw;have h1:=Int.emod_add_mul_ediv (n+1) P;rw[hw,hq]at h1;have hmod:(n+1) % (d*P)=P*((n / P+1) % d):=by
  rw[show n+1=P*(n / P+1)by omega,Int.mul_comm d P];exact Int.mul_emod_mul_of_pos _ _ (by omega)
 have hb1:=Int.emod_nonneg (n / P) (show d≠0 by omega);have hb2:=Int.emod_lt_of_pos (n / P) (show 0<d by omega);have h5:=Int.emod_add_mul_ediv (n / P) d;rw[hmod]
 constructor
 ·intro hlt
  have hm:(n / P+1) % d=(n / P) % d+1:=by
   have e1:n / P+1=((n / P) % d+1)+d*(n / P / d):=by omega
   have e2:=congrArg (· % d) e1;simp only[Int.add_mul_emod_self_left]at e2;rw[e2,Int.emod_eq_of_lt (by omega) hlt]
  rw[hm];refine⟨fun e0=> ?_,rfl⟩;rcases Int.mul_eq_zero.1 e0 with h|h<;>omega
 ·intro hge
  have hm:(n / P+1) % d=0:=by
   have e1:n / P+1=d*(n / P / d+1):=by rw[Int.mul_add];omega
   rw[e1];exact Int.mul_emod_right _ _
  rw[hm];exact⟨by omega,rfl⟩
theorem wA:∀{L ls:List Int},L.Nodup→(∀x∈L,x∈ls)→ls.length≤L.length→∀x∈ls,x∈L
 | [],ls,_,_,h,x,hx=>by
  have:ls=[]:=List.eq_nil_of_length_eq_zero (by simpa using h);rw[this]at hx;cases hx
 |l :: L,ls,hn,hs,h,x,hx=>by
  simp only[List.nodup_cons]at hn;have hl:l∈ls:=hs l (by simp);by_cases e:x=l
  ·simp [e]
  ·have:=wA (L:=L) (ls:=ls.erase l) hn.2 (fun y hy=>(List.mem_erase_of_ne (fun (e:y=l)=>hn.1 (e ▸ hy))).2 (hs y (by simp [hy]))) (by rw[List.length_erase_of_mem hl];simp at h;omega) x ((List.mem_erase_of_ne e).2 hx)
   simp [this]
theorem v8{f:Int→Int}:∀{ls:List Int} {l:Int},l∈ls→aa (ls.map f)=f l*aa ((ls.erase l).map f)
 | [],_,h=>by cases h
 |x :: ls,l,h=>by
  by_cases e:x=l
  ·subst e
   simp [bi]
  ·have h':l∈ls:=by simpa [Ne.symm e]using h
   rw[List.erase_cons_tail (by simpa using e),List.map_cons,List.map_cons,bi,bi,v8 h', ← Int.mul_assoc, ← Int.mul_assoc,Int.mul_comm (f x)]
theorem iy{f:Int→Int}:∀{L ls:List Int},L.Nodup→(∀x∈L,x∈ls)→(∀x∈ls,1≤f x)→aa (L.map f)≤aa (ls.map f)
 | [],ls,_,_,hf=>by
  have:=aW (ls.map f) (fun d hd=>by simp only[List.mem_map]at hd;obtain⟨x,hx,rfl⟩:=hd;exact hf x hx);simpa [aa]using this
 |l :: L,ls,hn,hs,hf=>by
  simp only[List.nodup_cons]at hn;have hl:l∈ls:=hs l (by simp);have ih:=iy (L:=L) (ls:=ls.erase l) (f:=f) hn.2 (fun y hy=>(List.mem_erase_of_ne (fun (e:y=l)=>hn.1 (e ▸ hy))).2 (hs y (by simp [hy]))) (fun x hx=>hf x (List.mem_of_mem_erase hx));rw[List.map_cons,bi,v8 hl];exact Int.mul_le_mul_of_nonneg_left ih (by have:=hf l hl;omega)
def gath(src:List Int)(wd:Nat)(f:Nat→Nat):Nat→List Int
 |0=>[]
 |i+1=>gath src wd f i++(src.drop (f i*wd)).take wd
theorem dP{src:List Int}{wd:Nat}{f:Nat→Nat}:∀{n:Nat},(∀i,i<n→f i*wd+wd≤src.length)→(gath src wd f n).length=n*wd
 |0,_=>by simp [gath]
 |n+1,h=>by
  have h1:=h n (by omega);rw[gath,List.length_append,dP (n:=n) (fun i hi=>h i (by omega)),Nat.add_mul,Nat.one_mul]
  simp;omega
theorem t8{src:List Int}{wd:Nat}{f:Nat→Nat}:∀{n:Nat},∀x∈gath src wd f n,x∈src
 |0,x,h=>by simp [gath]at h
 |n+1,x,h=>by
  rw[gath,List.mem_append]at h;rcases h with h|h
  ·exact t8 (n:=n) x h
  ·exact List.mem_of_mem_drop (List.mem_of_mem_take h)
theorem ri{ls ds L xs:List Int}(hl:ls.length=ds.length)(hn:ls.Nodup)(hL:L.Nodup)(hs:∀l∈ls,l∈L)(hx:xs.length=L.length):
  dotI (L.map (ah ls ds)) xs=offs ds (ls.map (atL L xs)):=by
 rw[Mf (by simp [hl]),z8 (atL L xs) L hL ls ds hl hn hs];rw[← xL,KZ hL hx]
theorem EP{L xs:List Int}{l:Int}(h:l∈L)(hx:xs.length=L.length):∃k,k<L.length∧k<xs.length∧L[k]? =some l∧atL L xs l=xs.getD k 0:=by
 obtain⟨k,hk,e1,e2,_⟩:=eU h;exact⟨k,hk,by omega,by rw[zg hk,e2],by rw[atL,e1];rfl⟩
theorem C5{L:List Int}(h:L.Nodup){i j:Nat}(hi:i<L.length)(hj:j<L.length)(e:L[i]=L[j]):i=j:=by
 rcases Nat.lt_trichotomy i j with h1|h1|h1
 ·exact absurd e (List.pairwise_iff_getElem.1 h i j hi hj h1)
 ·exact h1
 ·exact absurd e.symm (List.pairwise_iff_getElem.1 h j i hj hi h1)
theorem dQ{L:List Int}(h:L.Nodup){k:Nat}(hk:k<L.length):L[k]∉L.take k:=by
 intro hm;obtain⟨i,hi,e⟩:=List.mem_iff_getElem.1 hm;have hi':i<k:=by simp at hi;omega
 simp at e;have:=C5 h (by omega) hk e;omega
theorem yO(a:Nat):∀b,List.range (a+b)=List.range a++(List.range b).map (a+ ·)
 |0=>by simp
 |b+1=>by
  rw[← Nat.add_assoc,List.range_succ,yO a b,List.range_succ,List.map_append,List.append_assoc];rfl
theorem q6(b:Nat):∀a,List.range (a*b)=(List.range a).flatMap fun x=>(List.range b).map (x*b+ ·)
 |0=>by simp
 |a+1=>by
  rw[Nat.add_mul,Nat.one_mul,yO,q6 b a,List.range_succ,List.flatMap_append]
  simp
theorem vm{A:List Nat}:∀{d v:Nat},v<d→((List.range d).flatMap fun x=>if x=v then A else [])=A
 |0,_,h=>absurd h (Nat.not_lt_zero _)
 |d+1,v,h=>by
  rw[List.range_succ,List.flatMap_append];by_cases e:v=d
  ·subst e
   have:((List.range v).flatMap fun x=>if x=v then A else [])=[]:=by
    rw[List.flatMap_eq_nil_iff];intro x hx;have:x<v:=by simpa using hx
    rw[if_neg (by omega)]
   rw[this]
   simp
  ·rw[vm (d:=d) (by omega)]
   simp [Ne.symm e]
theorem fy{α β:Type}{f g:α→List β}:∀{l:List α},(∀x∈l,f x=g x)→l.flatMap f=l.flatMap g
 | [],_=>rfl
 |x :: l,h=>by rw[List.flatMap_cons,List.flatMap_cons,h x (by simp),fy (fun y hy=>h y (by simp [hy]))]
def aZ(ds:List Int):Nat:=(aa ds).toNat
theorem gu{ds:List Int}(h:∀d∈ds,1≤d):aa ds=aZ ds∧1≤aZ ds:=by
 have:=aW ds h;unfold aZ;omega
theorem mT{d:Int}{ds:List Int}(h:∀x∈d :: ds,1≤x):aZ (d :: ds)=d.toNat*aZ ds:=by
 have h1:=h d (by simp);have h2:=aW ds (fun x hx=>h x (by simp [hx]));unfold aZ;rw[bi];have e:d*aa ds=((d.toNat*(aa ds).toNat:Nat):Int):=by push_cast;rw[Int.toNat_of_nonneg (by omega),Int.toNat_of_nonneg (by omega)]
 rw[e];rfl
theorem rH:∀(ds:List Int) (x y:Int),(∀d∈ds,1≤d)→ab ds (x*aa ds+y)=ab ds y
 | [],_,_,_=>rfl
 |d :: ds,x,y,h=>by
  have hds:∀d∈ds,1≤d:=fun z hz=>h z (by simp [hz])
  have hp:=aW ds hds;rw[bN,bN,bi];have e:x*(d*aa ds)+y=(x*d)*aa ds+y:=by rw[Int.mul_assoc]
  rw[e,rH ds (x*d) y hds,Int.add_comm,Int.add_mul_ediv_right _ _ (by omega),Int.mul_comm x d,Int.add_mul_emod_self_left]
theorem vq(ds:List Int)(n:Int)(h:∀d∈ds,1≤d):ab ds (n % aa ds)=ab ds n:=by
 have:=rH ds (n / aa ds) (n % aa ds) h;rw[← this,Int.mul_comm,Int.mul_ediv_add_emod]
theorem sn:∀(ds:List Int) (n:Int),(∀d∈ds,1≤d)→0≤n→n<aa ds→kB ds (ab ds n)=n
 | [],n,_,h0,h1=>by simp [aa]at h1;simp [kB,DR];omega
 |d :: ds,n,h,h0,h1=>by
  have hds:∀d∈ds,1≤d:=fun z hz=>h z (by simp [hz])
  have hp:=aW ds hds;rw[bi]at h1;rw[bN,kB, ← vq ds n hds,sn ds (n % aa ds) hds (Int.emod_nonneg _ (by omega)) (Int.emod_lt_of_pos _ (by omega))];have hq:n / aa ds<d:=Int.ediv_lt_of_lt_mul (by omega) h1;have hq0:0≤n / aa ds:=Int.ediv_nonneg h0 (by omega);rw[Int.emod_eq_of_lt hq0 hq,Int.mul_comm,Int.mul_ediv_add_emod]
def dE:List Int→List Int
 | []=>[]
 |_ :: ds=>aa ds :: dE ds
theorem rW:∀(ds is:List Int),is.length=ds.length→dotI (dE ds) is=kB ds is
 | [],[],_=>rfl
 | [],_ :: _,h=>by simp at h
 |_ :: _,[],h=>by simp at h
 |d :: ds,i :: is,h=>by rw[dE,dotI,kB,rW ds is (by simpa using h),Int.mul_comm]
theorem oe:∀(ls ds:List Int),ls.length=ds.length→ls.Nodup→ls.map (ah ls ds)=dE ds
 | [],[],_,_=>rfl
 | [],_ :: _,h,_=>by simp at h
 |_ :: _,[],h,_=>by simp at h
 |l :: ls,d :: ds,h,hn=>by
  simp only[List.nodup_cons]at hn;rw[List.map_cons,dE,ah,if_pos rfl, ← oe ls ds (by simpa using h) hn.2]
  congr 1
  refine List.map_congr_left fun x hx=> ?_
  rw[ah,if_neg fun (e:x=l)=>hn.1 (e ▸ hx)]
def offJ(v:Nat):List Int→Nat→Nat→Nat
 | [],_,_=>0
 |_ :: ds,0,i=>v*aZ ds+i
 |_ :: ds,j+1,i=>(i / aZ (ds.eraseIdx j))*aZ ds+offJ v ds j (i % aZ (ds.eraseIdx j))
theorem zL{ds:List Int}(h:∀d∈ds,1≤d)(j:Nat):∀d∈ds.eraseIdx j,1≤d:=fun d hd=>h d (List.mem_of_mem_eraseIdx hd)
theorem C3(v:Nat):∀(ds:List Int) (j i:Nat),(∀d∈ds,1≤d)→j<ds.length→i<aZ (ds.eraseIdx j)→
  (v:Int)*(dE ds).getD j 0+dotI ((dE ds).eraseIdx j) (ab (ds.eraseIdx j) i)=offJ v ds j i
 | [],j,_,_,h,_=>by simp at h
 |d :: ds,0,i,h,_,hi=>by
  have hds:∀d∈ds,1≤d:=fun z hz=>h z (by simp [hz])
  obtain⟨hp,_⟩:=gu hds;simp only[dE,List.getD_cons_zero,List.eraseIdx_cons_zero,offJ]at hi ⊢;rw[rW _ _ (aJ _ _),sn ds i hds (by omega) (by omega),hp]
  push_cast;rfl
 |d :: ds,j+1,i,h,hj,hi=>by
  have hds:∀d∈ds,1≤d:=fun z hz=>h z (by simp [hz])
  have he:=zL hds j;obtain⟨hp,_⟩:=gu hds;obtain⟨hp',hp1⟩:=gu he;have hd:=h d (by simp);have hall:∀x∈d :: ds.eraseIdx j,1≤x:=by
   intro x hx;simp only[List.mem_cons]at hx;rcases hx with rfl|hx
   ·exact hd
   ·exact he x hx
  simp only[List.eraseIdx_cons_succ]at hi ⊢;rw[mT hall]at hi;simp only[dE,List.getD_cons_succ,List.eraseIdx_cons_succ,bN,dotI,offJ];have ih:=C3 v ds j (i % aZ (ds.eraseIdx j)) hds (by simpa using hj) (Nat.mod_lt _ (by omega));have e1:ab (ds.eraseIdx j) ((i % aZ (ds.eraseIdx j):Nat):Int)=ab (ds.eraseIdx j) i:=by
   rw[Int.natCast_emod, ← hp',vq _ _ he]
  rw[e1]at ih;have hq:i / aZ (ds.eraseIdx j)<d.toNat:=Nat.div_lt_of_lt_mul (by rw[Nat.mul_comm];exact hi);have e2:(i:Int) / aa (ds.eraseIdx j) % d=(i / aZ (ds.eraseIdx j):Nat):=by
   rw[hp', ← Int.natCast_ediv];generalize i / aZ (ds.eraseIdx j)=q at*;exact Int.emod_eq_of_lt (by omega) (by omega)
  rw[e2];generalize i / aZ (ds.eraseIdx j)=q at*;generalize i % aZ (ds.eraseIdx j)=q2 at*
  push_cast
  rw[← ih,hp,Int.mul_comm (aZ ds:Int)];omega
theorem vc(v:Nat):∀(ds:List Int) (j:Nat),(∀d∈ds,1≤d)→j<ds.length→(v:Int)<ds.getD j 0→
  (List.range (aZ ds)).filter (fun n:Nat=>decide ((ab ds n).getD j 0=v))=(List.range (aZ (ds.eraseIdx j))).map (offJ v ds j)
 | [],_,_,h,_=>by simp at h
 |d :: ds,0,h,_,hv=>by
  have hds:∀d∈ds,1≤d:=fun z hz=>h z (by simp [hz])
  obtain⟨hp,hp1⟩:=gu hds;have hd:=h d (by simp);simp only[List.getD_cons_zero]at hv;rw[mT h,q6,List.filter_flatMap];have key:∀x∈List.range d.toNat,((List.range (aZ ds)).map (x*aZ ds+ ·)).filter (fun n:Nat=>decide ((ab (d :: ds) n).getD 0 0=v))=if x=v then (List.range (aZ ds)).map (v*aZ ds+ ·) else []:=by
   intro x hx;have hx':x<d.toNat:=by simpa using hx
   have hval:∀y,y<aZ ds→(ab (d :: ds) ((x*aZ ds+y:Nat):Int)).getD 0 0=x:=fun y hy=>by
    rw[bN,List.getD_cons_zero,hp, ← Int.natCast_ediv];have e:(x*aZ ds+y) / aZ ds=x:=by
     rw[Nat.mul_comm,Nat.mul_add_div (by omega),Nat.div_eq_of_lt hy];omega
    rw[e,Int.emod_eq_of_lt (by omega) (by omega)]
   split
   ·rename_i e
    subst e;refine List.filter_eq_self.2 fun n hn=> ?_
    obtain⟨y,hy,rfl⟩:=List.mem_map.1 hn;exact decide_eq_true (hval y (by simpa using hy))
   ·rename_i e
    refine List.filter_eq_nil_iff.2 fun n hn=> ?_
    obtain⟨y,hy,rfl⟩:=List.mem_map.1 hn;rw[hval y (by simpa using hy)]
    simp;omega
  rw[fy key,vm (by omega)];simp only[List.eraseIdx_cons_zero]
  rfl
 |d :: ds,j+1,h,hj,hv=>by
  have hds:∀d∈ds,1≤d:=fun z hz=>h z (by simp [hz])
  have he:=zL hds j;obtain⟨hp,hp1⟩:=gu hds;obtain⟨hp',hp1'⟩:=gu he;have hd:=h d (by simp);have hall:∀x∈d :: ds.eraseIdx j,1≤x:=by
   intro x hx;simp only[List.mem_cons]at hx;rcases hx with rfl|hx
   ·exact hd
   ·exact he x hx
  simp only[List.getD_cons_succ]at hv;have ih:=vc v ds j hds (by simpa using hj) hv;rw[mT h,q6,List.filter_flatMap,List.eraseIdx_cons_succ,mT hall,q6,List.map_flatMap];refine fy fun x hx=> ?_
  rw[List.filter_map,List.map_map];have e1:(fun n:Nat=>decide ((ab (d :: ds) n).getD (j+1) 0=(v:Int))) ∘ (x*aZ ds+ ·)=fun n:Nat=>decide ((ab ds n).getD j 0=(v:Int)):=by
   funext y
   simp only[Function.comp,bN,List.getD_cons_succ]
   congr 3
   push_cast
   rw[← hp,rH ds x y hds]
  rw[e1,ih,List.map_map];refine List.map_congr_left fun i hi=> ?_
  have hi':i<aZ (ds.eraseIdx j):=by simpa using hi
  simp only[Function.comp,offJ];have e2:(x*aZ (ds.eraseIdx j)+i) / aZ (ds.eraseIdx j)=x:=by
   rw[Nat.mul_comm,Nat.mul_add_div (by omega),Nat.div_eq_of_lt hi'];omega
  have e3:(x*aZ (ds.eraseIdx j)+i) % aZ (ds.eraseIdx j)=i:=by
   rw[Nat.mul_comm,Nat.mul_add_mod,Nat.mod_eq_of_lt hi']
  rw[e2,e3]
end Go.Proofs.YtobhmajhachnaaaGreatDoor
namespace Go.Proofs.YtobhmajhachnaaaGreatDoor.Plain
def smF(f:Nat→Int):Nat→Int
 |0=>0
 |k+1=>smF f k+f k
theorem aH{f g:Nat→Int}:∀{n:Nat},(∀i,i<n→f i=g i)→smF f n=smF g n
 |0,_=>rfl
 |n+1,h=>by rw[smF,smF,aH fun i hi=>h i (by omega),h n (by omega)]
theorem lN:∀n,smF (fun _=>0) n=0
 |0=>rfl
 |n+1=>by rw[smF,lN n];rfl
theorem vX(f g:Nat→Int):∀n,smF (fun i=>f i+g i) n=smF f n+smF g n
 |0=>rfl
 |n+1=>by rw[smF,smF,smF,vX f g n];omega
theorem gp(c:Int)(f:Nat→Int):∀n,c*smF f n=smF (fun i=>c*f i) n
 |0=>Int.mul_zero c
 |n+1=>by rw[smF,smF,Int.mul_add,gp c f n]
theorem sa(c:Int)(f:Nat→Int)(n:Nat):smF f n*c=smF (fun i=>f i*c) n:=by
 rw[Int.mul_comm,gp];exact aH fun i _=>Int.mul_comm ..
theorem fk(f:Nat→Nat→Int)(m:Nat):∀n,smF (fun i=>smF (fun j=>f i j) m) n=smF (fun j=>smF (fun i=>f i j) n) m
 |0=>(lN m).symm
 |n+1=>by
  rw[smF,fk f m n, ← vX]
  rfl
theorem Au{f:Nat→Int}{k:Nat}:∀{n:Nat},k<n→(∀i,i<n→i≠k→f i=0)→smF f n=f k
 |0,h,_=>by omega
 |n+1,h,h0=>by
  rw[smF];by_cases e:k=n
  ·subst e
   rw[aH (g:=fun _=>0) fun i hi=>h0 i (by omega) (by omega),lN];omega
  ·rw[Au (n:=n) (by omega) fun i hi=>h0 i (by omega),h0 n (by omega) (Ne.symm e)]
   omega
theorem Av{f g:Nat→Int}{p:Int}:∀{n:Nat},(∀i,i<n→f i % p=g i % p)→smF f n % p=smF g n % p
 |0,_=>rfl
 |n+1,h=>by
  rw[smF,smF,Int.add_emod,Av fun i hi=>h i (by omega),h n (by omega), ← Int.add_emod]
def sgK(b:Bool)(i j k:Nat):Int:=if i+j=k then 1 else if b=true∧i+j=k+4 then -1 else 0
theorem GO(b:Bool)(i j k:Nat):sgK b i j k=sgK b j i k:=by unfold sgK;rw[Nat.add_comm i j]
def cvF(b:Bool)(w:Nat)(x y:Nat→Int)(k:Nat):Int:=smF (fun i=>smF (fun j=>sgK b i j k*(x i*y j)) w) w
theorem A5{b:Bool}{w:Nat}{x x' y y':Nat→Int}(hx:∀i,i<w→x i=x' i)(hy:∀i,i<w→y i=y' i)(k:Nat):cvF b w x y k=cvF b w x' y' k:=
 aH fun i hi=>aH fun j hj=>by rw[hx i hi,hy j hj]
theorem IQ(b:Bool)(w:Nat)(x y:Nat→Int)(k:Nat):cvF b w x y k=cvF b w y x k:=by
 unfold cvF;rw[fk];exact aH fun i _=>aH fun j _=>by rw[GO,Int.mul_comm (x j)]
theorem Ba{b:Bool}{w:Nat}{x x' y y':Nat→Int}{p:Int}(hx:∀i,i<w→x i % p=x' i % p)(hy:∀i,i<w→y i % p=y' i % p)(k:Nat):cvF b w x y k % p=cvF b w x' y' k % p:=
 Av fun i hi=>Av fun j hj=>by
  have e:(x i*y j) % p=(x' i*y' j) % p:=by rw[Int.mul_emod,hx i hi,hy j hj, ← Int.mul_emod]
  rw[Int.mul_emod,e, ← Int.mul_emod]
theorem KN(b:Bool)(w:Nat)(x y z:Nat→Int)(k:Nat):cvF b w x (fun j=>y j+z j) k=cvF b w x y k+cvF b w x z k:=by
 unfold cvF;rw[← vX];refine aH fun i _=> ?_
 rw[← vX];exact aH fun j _=>by rw[Int.mul_add,Int.mul_add]
theorem IP(b:Bool)(w:Nat)(y:Nat→Int)(k:Nat):cvF b w (fun _=>0) y k=0:=by
 unfold cvF;rw[aH (g:=fun _=>0) fun i _=> ?_,lN];rw[aH (g:=fun _=>0) fun j _=> ?_,lN];rw[Int.zero_mul,Int.mul_zero]
theorem KM{b:Bool}{w:Nat}(hb:b=true→w=4)(y:Nat→Int){k:Nat}(hk:k<w):cvF b w (fun i=>if i=0 then 1 else 0) y k=y k:=by
 unfold cvF;rw[Au (k:=0) (by omega) fun i _ hne=> ?_]
 ·rw[Au (k:=k) hk fun j hj hne=> ?_]
  ·simp [sgK]
  ·have h1:¬ 0+j=k:=by omega
   have h2:¬(b=true∧0+j=k+4):=fun h=>by have:=hb h.1;omega
   rw[sgK,if_neg h1,if_neg h2,Int.zero_mul]
 ·rw[aH (g:=fun _=>0) fun j _=> ?_,lN]
  show sgK b i j k*((if i=0 then 1 else 0)*y j)=0
  rw[if_neg hne,Int.zero_mul,Int.mul_zero]
theorem F9{b:Bool}{w:Nat}(hw:w≤6)(hb:b=true→w=4){i j m k:Nat}(hi:i<w)(hj:j<w)(hm:m<w)(hk:k<w):
  smF (fun l=>sgK b i j l*sgK b l m k) w=smF (fun l=>sgK b j m l*sgK b i l k) w:=by
 cases b with
 |false=>
  have h:∀w,w<7→∀i,i<w→∀j,j<w→∀m,m<w→∀k,k<w→smF (fun l=>sgK false i j l*sgK false l m k) w=smF (fun l=>sgK false j m l*sgK false i l k) w:=by decide+kernel
  exact h w (by omega) i hi j hj m hm k hk
 |true=>
  obtain rfl:=hb rfl;have h:∀i,i<4→∀j,j<4→∀m,m<4→∀k,k<4→smF (fun l=>sgK true i j l*sgK true l m k) 4=smF (fun l=>sgK true j m l*sgK true i l k) 4:=by decide+kernel
  exact h i hi j hj m hm k hk
theorem Gb{b:Bool}{w:Nat}(hw:w≤6)(hb:b=true→w=4)(x y z:Nat→Int){k:Nat}(hk:k<w):cvF b w (cvF b w x y) z k=cvF b w x (cvF b w y z) k:=by
 have e1:cvF b w (cvF b w x y) z k=smF (fun i=>smF (fun j=>smF (fun m=>smF (fun l=>sgK b i j l*sgK b l m k) w*(x i*y j*z m)) w) w) w:=by
  have a1:cvF b w (cvF b w x y) z k=smF (fun l=>smF (fun m=>smF (fun i=>smF (fun j=>sgK b i j l*sgK b l m k*(x i*y j*z m)) w) w) w) w:=by
   refine aH fun l _=>aH fun m _=> ?_
   unfold cvF;rw[sa,gp];refine aH fun i _=> ?_
   rw[sa,gp];exact aH fun j _=>by grind
  rw[a1];rw[aH fun l _=>fk (fun m i=>smF (fun j=>sgK b i j l*sgK b l m k*(x i*y j*z m)) w) w w];rw[fk (fun l i=>smF (fun m=>smF (fun j=>sgK b i j l*sgK b l m k*(x i*y j*z m)) w) w) w w];refine aH fun i _=> ?_
  rw[aH fun l _=>fk (fun m j=>sgK b i j l*sgK b l m k*(x i*y j*z m)) w w];rw[fk (fun l j=>smF (fun m=>sgK b i j l*sgK b l m k*(x i*y j*z m)) w) w w];refine aH fun j _=> ?_
  rw[fk (fun l m=>sgK b i j l*sgK b l m k*(x i*y j*z m)) w w];exact aH fun m _=>(sa ..).symm
 have e2:cvF b w x (cvF b w y z) k=smF (fun i=>smF (fun j=>smF (fun m=>smF (fun l=>sgK b j m l*sgK b i l k) w*(x i*y j*z m)) w) w) w:=by
  have a1:cvF b w x (cvF b w y z) k=smF (fun i=>smF (fun l=>smF (fun j=>smF (fun m=>sgK b j m l*sgK b i l k*(x i*y j*z m)) w) w) w) w:=by
   refine aH fun i _=>aH fun l _=> ?_
   unfold cvF;rw[gp,gp];refine aH fun j _=> ?_
   rw[gp,gp];exact aH fun m _=>by grind
  rw[a1];refine aH fun i _=> ?_
  rw[fk (fun l j=>smF (fun m=>sgK b j m l*sgK b i l k*(x i*y j*z m)) w) w w];refine aH fun j _=> ?_
  rw[fk (fun l m=>sgK b j m l*sgK b i l k*(x i*y j*z m)) w w];exact aH fun m _=>(sa ..).symm
 rw[e1,e2];exact aH fun i hi=>aH fun j hj=>aH fun m hm=>by rw[F9 hw hb hi hj hm hk]
section
variable {r : Rg} {x y out : List Int} {w : Nat}
def k8(r:Rg):Bool:=decide (r.k=8)
theorem sZ{xs:List Int}{n k:Nat}{v:Int}(hn:n<xs.length):(xs.set n v).getD k 0=if k=n then v else xs.getD k 0:=by
 rw[zq,zq,List.getElem?_set];by_cases e:n=k
 ·subst e;simp [hn]
 ·rw[if_neg e,if_neg (Ne.symm e)]
theorem Fx(hp:2≤r.p∧r.p≤1000003)(h8:k8 r=true→w=4)(ho:lowP r.p out)(hl:out.length=w){i j:Nat}{a b:Int}(hi:i<w)(hj:j<w)(ha:0≤a∧a<r.p)(hb:0≤b∧b<r.p){k:Nat}(hk:k<w):
  (sy r out i j a b).getD k 0=(out.getD k 0+sgK (k8 r) i j k*(a*b)) % r.p:=by
 have hab:=AB ha hb hp.2;have hkk:=ho.at (by omega) k;have same:out.getD k 0=(out.getD k 0+0) % r.p:=by rw[Int.add_zero,Int.emod_eq_of_lt hkk.1 hkk.2]
 unfold sy;rw[hl];by_cases h1:i+j<w
 ·rw[if_pos h1,sZ (by omega)]
  by_cases e:k=i+j
  ·subst e
   rw[if_pos rfl,sgK,if_pos rfl,Int.one_mul,tm (by omega)]
  ·have h2:¬(k8 r=true∧i+j=k+4):=fun h=>by have:=h8 h.1;omega
   rw[if_neg e,sgK,if_neg (Ne.symm e),if_neg h2,Int.zero_mul];exact same
 ·have e0:¬ i+j=k:=by omega
  rw[if_neg h1];by_cases h3:r.k=8
  ·have hw4:=h8 (by simp [k8,h3])
   rw[if_pos h3,sZ (by omega)];by_cases e:k=i+j-4
   ·have e4:i+j=k+4:=by omega
    have hpa:0≤(r.p-a)*b:=Int.mul_nonneg (by omega) hb.1;have hx:(r.p-a)*b= -1*(a*b)+r.p*b:=by grind
    rw[if_pos e,sgK,if_neg e0,if_pos ⟨by simp [k8,h3],e4⟩, ← e,tm (by omega),hx, ← Int.add_assoc,Int.add_mul_emod_self_left]
   ·rw[if_neg e,sgK,if_neg e0,if_neg fun h=>e (by omega),Int.zero_mul]
    exact same
  ·rw[if_neg h3,sgK,if_neg e0,if_neg fun h=>h3 (by simpa [k8]using h.1),Int.zero_mul]
   exact same
theorem sx(hp:2≤r.p∧r.p≤1000003)(h8:k8 r=true→w=4)(ho:lowP r.p out)(hl:out.length=w){i:Nat}{a:Int}(hi:i<w)(ha:0≤a∧a<r.p)(hy:lowP r.p y){k:Nat}(hk:k<w):
  ∀j,j≤w→(bR r y i a out j).getD k 0=(out.getD k 0+smF (fun j=>sgK (k8 r) i j k*(a*y.getD j 0)) j) % r.p
 |0,_=>by
  have hkk:=ho.at (by omega) k;rw[bR,smF,Int.add_zero,Int.emod_eq_of_lt hkk.1 hkk.2]
 |j+1,hj=>by
  obtain⟨_,h2,h3⟩:=gD (i:=i) hp ho ha hy j;rw[bR,Fx hp h8 h2 (h3.trans hl) hi (by omega) ha (hy.at (by omega) j) hk,sx hp h8 ho hl hi ha hy hk j (by omega),smF,Int.emod_add_emod,Int.add_assoc]
theorem zi(hp:2≤r.p∧r.p≤1000003)(h8:k8 r=true→w=4)(ho:lowP r.p out)(hl:out.length=w)(hx:lowP r.p x)(hy:lowP r.p y)(ly:y.length=w){k:Nat}(hk:k<w):
  ∀i,i≤w→(de r x y out i).getD k 0=(out.getD k 0+smF (fun i=>smF (fun j=>sgK (k8 r) i j k*(x.getD i 0*y.getD j 0)) w) i) % r.p
 |0,_=>by
  have hkk:=ho.at (by omega) k;rw[de,smF,Int.add_zero,Int.emod_eq_of_lt hkk.1 hkk.2]
 |i+1,hi=>by
  obtain⟨_,h2,h3⟩:=m4 hp ho hx hy i;rw[de,ly,sx hp h8 h2 (h3.trans hl) (by omega) (hx.at (by omega) i) hy hk w (Nat.le_refl _),zi hp h8 ho hl hx hy ly hk i (by omega),smF,Int.emod_add_emod,Int.add_assoc]
end
end Go.Proofs.YtobhmajhachnaaaGreatDoor.Plain
namespace Go.Proofs.YtobhmajhachnaaaGreatDoor.Sem
structure SR(E:Type) where
 add:E→E→E
 mul:E→E→E
 zero:E
 one:E
 add_assoc:∀a b c,add (add a b) c=add a (add b c)
 add_comm:∀a b,add a b=add b a
 zero_add:∀a,add zero a=a
 mul_assoc:∀a b c,mul (mul a b) c=mul a (mul b c)
 mul_comm:∀a b,mul a b=mul b a
 one_mul:∀a,mul one a=a
 zero_mul:∀a,mul zero a=zero
 mul_add:∀a b c,mul a (add b c)=add (mul a b) (mul a c)
variable {E : Type} (S : SR E)
theorem SR.add_zero(a:E):S.add a S.zero=a:=by rw[S.add_comm,S.zero_add]
theorem SR.mul_zero(a:E):S.mul a S.zero=S.zero:=by rw[S.mul_comm,S.zero_mul]
theorem SR.mul_one(a:E):S.mul a S.one=a:=by rw[S.mul_comm,S.one_mul]
theorem SR.add4(a b c d:E):S.add (S.add a b) (S.add c d)=S.add (S.add a c) (S.add b d):=by
 rw[S.add_assoc,S.add_assoc, ← S.add_assoc b,S.add_comm b c,S.add_assoc c]
def sm(f:Nat→E):Nat→E
 |0=>S.zero
 |k+1=>S.add (sm f k) (f k)
theorem cn{f g:Nat→E}:∀{n:Nat},(∀i,i<n→f i=g i)→sm S f n=sm S g n
 |0,_=>rfl
 |n+1,h=>by rw[sm,sm,cn fun i hi=>h i (by omega),h n (by omega)]
theorem vW:∀n,sm S (fun _=>S.zero) n=S.zero
 |0=>rfl
 |n+1=>by rw[sm,vW n,S.zero_add]
theorem GK(f g:Nat→E):∀n,sm S (fun i=>S.add (f i) (g i)) n=S.add (sm S f n) (sm S g n)
 |0=>(S.zero_add _).symm
 |n+1=>by rw[sm,sm,sm,GK f g n,S.add4]
theorem E8(c:E)(f:Nat→E):∀n,S.mul c (sm S f n)=sm S (fun i=>S.mul c (f i)) n
 |0=>S.mul_zero c
 |n+1=>by rw[sm,sm,S.mul_add,E8 c f n]
theorem E9(f:Nat→Nat→E)(m:Nat):∀n,sm S (fun i=>sm S (fun j=>f i j) m) n=sm S (fun j=>sm S (fun i=>f i j) n) m
 |0=>(vW S m).symm
 |n+1=>by
  rw[sm,E9 f m n, ← GK]
  rfl
theorem GJ{f:Nat→E}{k:Nat}:∀{n:Nat},k<n→(∀i,i<n→i≠k→f i=S.zero)→sm S f n=f k
 |0,h,_=>by omega
 |n+1,h,h0=>by
  rw[sm];by_cases e:k=n
  ·subst e
   rw[cn S (g:=fun _=>S.zero) fun i hi=>h0 i (by omega) (by omega),vW,S.zero_add]
  ·rw[GJ (n:=n) (by omega) fun i hi=>h0 i (by omega),h0 n (by omega) (Ne.symm e),S.add_zero]
abbrev Asg:=Int→Nat
def up(a:Asg)(x:Int)(v:Nat):Asg:=fun y=>if y=x then v else a y
theorem fi(a:Asg)(x:Int)(v:Nat):up a x v x=v:=if_pos rfl
theorem nq{a:Asg}{x y:Int}{v:Nat}(h:y≠x):up a x v y=a y:=if_neg h
theorem Jr{a:Asg}{x y:Int}{u v:Nat}(h:x≠y):up (up a x u) y v=up (up a y v) x u:=by
 funext z
 unfold up;by_cases h1:z=y
 ·subst h1;rw[if_pos rfl,if_neg (Ne.symm h),if_pos rfl]
 ·rw[if_neg h1]
  by_cases h2:z=x
  ·rw[if_pos h2,if_pos h2]
  ·rw[if_neg h2,if_neg h2,if_neg h1]
variable (dim : Int → Nat)
def sumL:List Int→(Asg→E)→Asg→E
 | [],f,a=>f a
 |x :: L,f,a=>sm S (fun v=>sumL L f (up a x v)) (dim x)
def Reach(L:List Int)(a a':Asg):Prop:=(∀y,y∉L→a' y=a y)∧∀x,x∈L→a' x<dim x
theorem bS{f g:Asg→E}:∀{L:List Int} {a:Asg},(∀a',Reach dim L a a'→f a'=g a')→sumL S dim L f a=sumL S dim L g a
 | [],a,h=>h a ⟨fun _ _=>rfl,fun x hx=>by cases hx⟩
 |x :: L,a,h=>by
  rw[sumL,sumL];refine cn S fun v hv=>bS fun a' ha=>h a' ⟨fun y hy=> ?_,fun y hy=> ?_⟩
  ·rw[ha.1 y fun h=>hy (List.mem_cons_of_mem _ h),nq fun e=>hy (by rw[e];exact List.mem_cons_self)]
  ·by_cases hyL:y∈L
   ·exact ha.2 y hyL
   ·rcases List.mem_cons.1 hy with e|e
    ·subst e;rw[ha.1 y hyL,fi];exact hv
    ·exact absurd e hyL
theorem od(f:Asg→E):∀(L M:List Int) (a:Asg),sumL S dim (L++M) f a=sumL S dim L (sumL S dim M f) a
 | [],_,_=>rfl
 |x :: L,M,a=>by
  rw[List.cons_append,sumL,sumL];exact cn S fun v _=>od f L M _
theorem iT{f:Asg→E}{L M:List Int}(h:L.Perm M):L.Nodup→∀a,sumL S dim L f a=sumL S dim M f a:=by
 induction h with
 |nil=>exact fun _ _=>rfl
 |cons x h ih=>
  intro hn a;rw[sumL,sumL];exact cn S fun v _=>ih (List.nodup_cons.1 hn).2 _
 |swap x y l=>
  intro hn a;have hne:y≠x:=fun e=>(List.nodup_cons.1 hn).1 (e ▸ List.mem_cons_self)
  simp only[sumL];rw[E9];exact cn S fun v _=>cn S fun u _=>by rw[Jr hne]
 |trans h1 h2 ih1 ih2=>exact fun hn a=>(ih1 hn a).trans (ih2 (h1.nodup_iff.1 hn) a)
def Ind(L:List Int)(g:Asg→E):Prop:=∀x,x∈L→∀a v,g (up a x v)=g a
theorem yG{f g:Asg→E}:∀{L:List Int} (_:Ind L g) (a:Asg),sumL S dim L (fun a=>S.mul (g a) (f a)) a=S.mul (g a) (sumL S dim L f a)
 | [],_,_=>rfl
 |x :: L,h,a=>by
  rw[sumL,sumL,E8];refine cn S fun v _=> ?_
  rw[yG (fun y hy=>h y (List.mem_cons_of_mem _ hy)),h x List.mem_cons_self]
def prL:List (Asg→E)→Asg→E
 | [],_=>S.one
 |t :: l,a=>S.mul (t a) (prL l a)
theorem BV{l m:List (Asg→E)}(h:l.Perm m)(a:Asg):prL S l a=prL S m a:=by
 induction h with
 |nil=>rfl
 |cons x h ih=>rw[prL,prL,ih]
 |swap x y l=>rw[prL,prL,prL,prL, ← S.mul_assoc, ← S.mul_assoc,S.mul_comm (y a)]
 |trans _ _ h1 h2=>exact h1.trans h2
theorem K4{l:List (Asg→E)}{L:List Int}(h:∀t∈l,Ind L t):Ind L (prL S l):=by
 induction l with
 |nil=>exact fun _ _ _ _=>rfl
 |cons t l ih=>
  intro x hx a v;rw[prL,prL,h t List.mem_cons_self x hx,ih (fun t ht=>h t (List.mem_cons_of_mem _ ht)) x hx]
def valL(ts:List (Asg→E))(R:List Int):Asg→E:=sumL S dim R (prL S ts)
theorem F0{ts rest:List (Asg→E)}{t u p:Asg→E}{R drop R':List Int}(h1:ts.Perm (t :: u :: rest))(h2:R.Perm (R'++drop))(hn:R.Nodup)(hi:∀s∈rest,Ind drop s)
  (a:Asg) (hp:∀a',Reach dim R' a a'→p a'=sumL S dim drop (fun a=>S.mul (t a) (u a)) a'):valL S dim ts R a=valL S dim (p :: rest) R' a:=by
 unfold valL;rw[iT S dim h2 hn,od];refine bS S dim fun a' ha=> ?_
 rw[prL,hp a' ha,S.mul_comm, ← yG S dim (K4 S hi)];refine bS S dim fun b _=> ?_
 rw[BV S h1,prL,prL, ← S.mul_assoc,S.mul_comm]
end Go.Proofs.YtobhmajhachnaaaGreatDoor.Sem
namespace Go.Proofs.YtobhmajhachnaaaGreatDoor.Sem
open Plain
variable {E : Type} (S : SR E) (dim : Int → Nat)
theorem E7(f:Nat→E)(a:Nat):∀b,sm S f (a+b)=S.add (sm S f a) (sm S (fun i=>f (a+i)) b)
 |0=>(S.add_zero _).symm
 |b+1=>by rw[← Nat.add_assoc,sm,E7 f a b,sm,S.add_assoc]
theorem Bx(f:Nat→E)(P:Nat):∀d,sm S f (d*P)=sm S (fun v=>sm S (fun m=>f (v*P+m)) P) d
 |0=>by rw[Nat.zero_mul];rfl
 |d+1=>by rw[Nat.succ_mul,E7,Bx f P d];rfl
def pN:List Int→Nat
 | []=>1
 |x :: L=>dim x*pN L
theorem AA{L:List Int}(h:∀x∈L,1≤dim x):1≤pN dim L:=by
 induction L with
 |nil=>exact Nat.le_refl _
 |cons x L ih=>
  have h1:=ih fun y hy=>h y (List.mem_cons_of_mem _ hy)
  have h2:=h x List.mem_cons_self;rw[pN];exact Nat.mul_le_mul h2 h1
def asgN:Asg→List Int→Nat→Asg
 |a,[],_=>a
 |a,x :: L,n=>asgN (up a x (n / pN dim L % dim x)) L n
theorem y8:∀(L:List Int) (_:∀x∈L,1≤dim x) (a:Asg) (v m:Nat),asgN dim a L (v*pN dim L+m)=asgN dim a L m
 | [],_,_,_,_=>rfl
 |x :: L,h,a,v,m=>by
  have h1:=AA dim fun y hy=>h y (List.mem_cons_of_mem _ hy)
  have e:v*pN dim (x :: L)+m=(v*dim x)*pN dim L+m:=by rw[pN,Nat.mul_assoc]
  rw[asgN,asgN,e,y8 L (fun y hy=>h y (List.mem_cons_of_mem _ hy))];have e2:((v*dim x)*pN dim L+m) / pN dim L % dim x=m / pN dim L % dim x:=by
   rw[Nat.mul_comm (v*dim x),Nat.mul_add_div (by omega),Nat.mul_comm v,Nat.mul_add_mod]
  rw[e2]
theorem ju:∀(L:List Int) (a:Asg) (n:Nat) (y:Int),y∉L→asgN dim a L n y=a y
 | [],_,_,_,_=>rfl
 |x :: L,a,n,y,h=>by
  rw[asgN,ju L _ n y fun e=>h (List.mem_cons_of_mem _ e),nq fun e=>h (by rw[e];exact List.mem_cons_self)]
theorem iQ:∀(L:List Int) (_:∀x∈L,1≤dim x) (a:Asg) (n:Nat) (y:Int),y∈L→asgN dim a L n y<dim y
 | [],_,_,_,y,hy=>by cases hy
 |x :: L,h,a,n,y,hy=>by
  rw[asgN];by_cases hL:y∈L
  ·exact iQ L (fun z hz=>h z (List.mem_cons_of_mem _ hz)) _ n y hL
  ·rcases List.mem_cons.1 hy with e|e
   ·subst e
    rw[ju dim L _ n y hL,fi];exact Nat.mod_lt _ (h y List.mem_cons_self)
   ·exact absurd e hL
theorem At(f:Asg→E):∀(L:List Int) (_:∀x∈L,1≤dim x) (a:Asg),sm S (fun n=>f (asgN dim a L n)) (pN dim L)=sumL S dim L f a
 | [],_,a=>by
  show S.add S.zero (f a)=f a
  exact S.zero_add _
 |x :: L,h,a=>by
  have hL:∀y∈L,1≤dim y:=fun y hy=>h y (List.mem_cons_of_mem _ hy)
  have h1:=AA dim hL;rw[pN,Bx,sumL];refine cn S fun v hv=> ?_
  rw[← At f L hL];refine cn S fun m hm=> ?_
  rw[asgN,y8 dim L hL];have e:(v*pN dim L+m) / pN dim L % dim x=v:=by
   rw[Nat.mul_comm,Nat.mul_add_div (by omega),Nat.div_eq_of_lt hm,Nat.add_zero,Nat.mod_eq_of_lt hv]
  rw[e]
def offR:List Int→Asg→Nat
 | [],_=>0
 |x :: L,a=>a x*pN dim L+offR L a
theorem dg:∀{L:List Int} {a:Asg},(∀x∈L,a x<dim x)→offR dim L a<pN dim L
 | [],_,_=>Nat.zero_lt_one
 |x :: L,a,h=>by
  have h1:=dg (L:=L) fun y hy=>h y (List.mem_cons_of_mem _ hy)
  have h2:=h x List.mem_cons_self;rw[offR,pN];have h3:(a x+1)*pN dim L≤dim x*pN dim L:=Nat.mul_le_mul_right _ h2;rw[Nat.succ_mul]at h3;omega
theorem sp:∀{L:List Int} {a b:Asg},(∀x∈L,a x<dim x)→(∀x∈L,b x<dim x)→offR dim L a=offR dim L b→∀x∈L,a x=b x
 | [],_,_,_,_,_,_,hx=>by cases hx
 |x :: L,a,b,ha,hb,e,y,hy=>by
  have h1:=dg dim (L:=L) fun z hz=>ha z (List.mem_cons_of_mem _ hz)
  have h2:=dg dim (L:=L) fun z hz=>hb z (List.mem_cons_of_mem _ hz)
  rw[offR,offR]at e;have e1:a x=b x:=by
   have d1:(a x*pN dim L+offR dim L a) / pN dim L=a x:=by rw[Nat.mul_comm,Nat.mul_add_div (by omega),Nat.div_eq_of_lt h1,Nat.add_zero]
   have d2:(b x*pN dim L+offR dim L b) / pN dim L=b x:=by rw[Nat.mul_comm,Nat.mul_add_div (by omega),Nat.div_eq_of_lt h2,Nat.add_zero]
   rw[← d1, ← d2,e]
  rw[e1]at e;rcases List.mem_cons.1 hy with h|h
  ·rw[h];exact e1
  ·exact sp (fun z hz=>ha z (List.mem_cons_of_mem _ hz)) (fun z hz=>hb z (List.mem_cons_of_mem _ hz)) (by omega) y h
theorem fT:∀{L:List Int} {a b:Asg},(∀x∈L,a x=b x)→offR dim L a=offR dim L b
 | [],_,_,_=>rfl
 |x :: L,a,b,h=>by rw[offR,offR,h x List.mem_cons_self,fT fun y hy=>h y (List.mem_cons_of_mem _ hy)]
theorem sq:∀(L:List Int),L.Nodup→(∀x∈L,1≤dim x)→∀(a:Asg) (n:Nat),n<pN dim L→offR dim L (asgN dim a L n)=n
 | [],_,_,_,n,h=>by
  have:pN dim []=1:=rfl;rw[offR];omega
 |x :: L,hn,h,a,n,hlt=>by
  have hL:∀y∈L,1≤dim y:=fun y hy=>h y (List.mem_cons_of_mem _ hy)
  have h1:=AA dim hL;obtain⟨hx,hn2⟩:=List.nodup_cons.1 hn;rw[offR,asgN,ju dim L _ n x hx,fi];have hq:n / pN dim L<dim x:=by
   rw[pN]at hlt;exact Nat.div_lt_of_lt_mul (by rw[Nat.mul_comm];exact hlt)
  rw[Nat.mod_eq_of_lt hq];have hm:=Nat.mod_lt n (show 0<pN dim L by omega);have hd:=Nat.div_add_mod n (pN dim L);have e:asgN dim (up a x (n / pN dim L)) L n=asgN dim (up a x (n / pN dim L)) L (n % pN dim L):=by
   have:=y8 dim L hL (up a x (n / pN dim L)) (n / pN dim L) (n % pN dim L);rw[Nat.mul_comm,hd]at this;exact this
  rw[e,sq L hn2 hL _ _ hm,Nat.mul_comm];exact hd
def agr(K:List Int)(a b:Asg):Bool:=K.all fun x=>a x==b x
theorem kO{K:List Int}{a b:Asg}:agr K a b=true↔∀x∈K,a x=b x:=by simp [agr]
theorem yF:∀(L:List Int) (a:Asg),sumL S dim L (fun _=>S.zero) a=S.zero
 | [],_=>rfl
 |x :: L,a=>by rw[sumL,cn S fun v _=>yF L _,vW]
theorem wz{f:Asg→E}{b:Asg}:∀{K:List Int},K.Nodup→(∀x∈K,b x<dim x)→(∀a a':Asg,(∀y,a y=a' y)→f a=f a')→∀a,(∀y,y∉K→a y=b y)→
  sumL S dim K (fun a=>if agr K a b=true then f a else S.zero) a=f b
 | [],_,_,hf,a,h=>by
  show (if agr [] a b=true then f a else S.zero)=f b
  rw[if_pos (kO.2 fun x hx=>by cases hx)];exact hf _ _ fun y=>h y fun e=>by cases e
 |x :: K,hn,hb,hf,a,h=>by
  obtain⟨hx,hn2⟩:=List.nodup_cons.1 hn;rw[sumL,GJ S (hb x List.mem_cons_self) fun v hv hne=> ?_]
  ·rw[← wz (f:=f) (b:=b) hn2 (fun y hy=>hb y (List.mem_cons_of_mem _ hy)) hf (up a x (b x)) fun y hy=> ?_]
   ·refine bS S dim fun a' ha=> ?_
    have e:a' x=b x:=by rw[ha.1 x hx,fi]
    have:agr (x :: K) a' b=agr K a' b:=by simp [agr,e]
    rw[this]
   ·by_cases e:y=x
    ·rw[e,fi]
    ·rw[nq e];exact h y fun h'=>(List.mem_cons.1 h').elim e hy
  ·refine(bS S dim (g:=fun _=>S.zero) fun a' ha=> ?_).trans (yF S dim K (up a x v))
   refine if_neg fun h'=> ?_
   have h1:=kO.1 h' x List.mem_cons_self;rw[ha.1 x hx,fi]at h1;exact hne h1
end Go.Proofs.YtobhmajhachnaaaGreatDoor.Sem
