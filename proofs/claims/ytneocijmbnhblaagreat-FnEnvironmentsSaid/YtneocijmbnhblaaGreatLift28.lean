/-
 LIFT, part 28: slices of ints, tensors and rings as data; the contracts of the hand-made walks as contracts on data. No condition.
-/
import Derived.Test.YtneocijmbnhblaaGreatLiftF
import Derived.Test.YtneocijmbnhblaaGreatHandA
set_option linter.unusedSimpArgs false
set_option linter.unusedVariables false
namespace Go.Proofs.YtneocijmbnhblaaGreat
open Go.RowKit Go.Lift
def topL (w:World):Labels:=fun b=>if b<w.heap.size then .im else .off
def bn (k p n:Int):AV:=.agg [.d (.int k),.d (.int p),.d (.int n)]
def tenA (t:Ten):AV:=.agg [.d (ints t.labels),.d (ints t.dims),.d (ints t.data)]
def ownT (k:Nat) (t:Ten):AV:=.agg [.own k 0 t.labels.length,.own (k+1) 0 t.dims.length,.own (k+2) 0 t.data.length]
def stoF (t:Ten):Sto:=[some ⟨1,false,iv t.labels⟩,some ⟨1,false,iv t.dims⟩,some ⟨1,false,iv t.data⟩]
def stoT (t:Ten):Sto:=[some ⟨1,true,iv t.labels⟩,some ⟨1,true,iv t.dims⟩,some ⟨1,true,iv t.data⟩]
section
variable {w : World} {γ : Labels} {φ : Nat → Nat} {s : St} {I : Nat → Prop} {xs : List Int}
theorem x7:∀ {xs:List Int} {b o:Nat},RdL w I (dv xs) b o↔∀ j,j<xs.length→w.cell? ⟨b,o+j,none⟩=some (.int .i64 (xs.getD j 0))
 | [],b,o=>by simp [dv,RdL]
 | x :: l,b,o=>by
  have ih:= @x7 l b (o+1)
  simp only[dv,List.map_cons,RdL,Rd]at ih ⊢
  constructor
  ·rintro⟨⟨v,h1,rfl⟩,h2⟩ j hj
   cases j with
   | zero=>simpa using h1
   | succ j=>have:=ih.1 h2 j (by simpa using hj);simpa [Nat.add_assoc,Nat.add_comm 1 j]using this
  ·intro h
   refine⟨⟨_,by simpa using h 0 (by simp),rfl⟩,ih.2 fun j hj=> ?_⟩
   have:=h (j+1) (by simpa using hj)
   simpa [Nat.add_assoc,Nat.add_comm 1 j]using this
theorem Rd.ok {v:Value} (h:Rd w (Im w γ) (ints xs) v) (hn:xs.length≤1099511627776) (hw:∀ x∈xs,I64 x):∃ A c,v=.slice A xs.length c∧SlOk w A xs.length c xs:=by
 simp only[ints,Rd]at h
 obtain⟨A,c,rfl,hc,h⟩:=h
 refine⟨A,c,rfl,⟨rfl,fun h0=> ?_⟩,hn,hc,hw⟩
 rcases h with ⟨h,_⟩ | ⟨b,o,rfl,hb,h⟩
 ·omega
 ·exact⟨b,o,rfl,hb.1,x7.1 h⟩
end
structure Sz (m:Nat) (xs:List Int):Prop where
 len:xs.length≤m
 wf:∀ x∈xs,I64 x
structure TSz (m:Nat) (t:Ten):Prop where
 l:Sz m t.labels
 d:Sz m t.dims
 x:Sz m t.data
section
variable {w : World} {γ : Labels} {φ : Nat → Nat} {s : St} {m : Nat} {xs : List Int} {t : Ten}
theorem uA {v:Value} (h:Rel w γ φ s (.d (ints xs)) v) (hs:Sz 1099511627776 xs):∃ A c,v=.slice A xs.length c∧SlOk w A xs.length c xs:=by
 rw[Rel]at h
 exact Rd.ok h hs.len hs.wf
theorem cm {v:Value} {x:Int} (h:Rel w γ φ s (.d (.int x)) v):v=.int .i64 x:=by simpa only[Rel,Rd]using h
theorem rel2 {a b:AV} {vals:List Value} (h:RelL w γ φ s [a,b] vals):∃ v u,vals=[v,u]∧Rel w γ φ s a v∧Rel w γ φ s b u:=by
 simp only[RelL]at h
 obtain⟨v,_,rfl,h,u,_,rfl,h',rfl⟩:=h
 exact⟨v,u,rfl,h,h'⟩
theorem DV (x:Int):∀ w γ φ s,Rel w γ φ s (.d (.int x)) (.int .i64 x):=fun w γ φ s=>by simp only[Rel,Rd]
end
def xj (xs:List Int) (k:Int):List Int:=(List.range xs.length).map fun (i:Nat)=>k+(i:Int)
def Df (t:Ten) (m:Int):Ten:=⟨xj t.labels m,xj t.dims (m+t.labels.length),xj t.data (m+t.labels.length+t.dims.length)⟩
theorem SlIn.size {w:World} {A:Option Addr} {n c:Nat} {xs:List Int} (h:SlIn w A n c xs):Sz 9223372036854775807 xs:=⟨by rw[h.1.1];exact h.2,h.4⟩
attribute [go_sem] ownT stoT stoF tenA bn Df
end Go.Proofs.YtneocijmbnhblaaGreat
namespace Go.Proofs.YtneocijmbnhblaaGreat
theorem Sz.up {m:Nat} {xs:List Int} (h:Sz 1048576 xs) (hm:1048576≤m:=by omega):Sz m xs:=⟨Nat.le_trans h.len hm,h.wf⟩
theorem TSz.up {m:Nat} {t:Ten} (h:TSz 1048576 t) (hm:1048576≤m:=by omega):TSz m t:=⟨h.l.up hm,h.d.up hm,h.x.up hm⟩
def mix (l r:List Int) (k:Nat):List Int:=l.take k++r.drop k
section
variable {l r : List Int} {k : Nat}
theorem cy:mix l r 0=r:=by simp [mix]
theorem gt (h:r.length≤k) (h':l.length≤k):mix l r k=l:=by simp [mix,List.drop_eq_nil_of_le h,List.take_of_length_le h']
theorem gR (h:l.length=r.length):(mix l r k).length=l.length:=by simp [mix];omega
theorem fH {x:Int} (h:l.length=r.length) (hx:l[k]? =some x):(mix l r k).take k++[x]++(mix l r k).drop (k+1)=mix l r (k+1):=by
 have hk:k<l.length:=(List.getElem?_eq_some_iff.1 hx).1
 have e:x=l[k]:=by rw[List.getElem?_eq_getElem hk]at hx;simpa using hx.symm
 subst e
 unfold mix
 rw[List.take_append_of_le_length (by simp;omega),List.take_of_length_le (by simp;omega),List.drop_append,List.drop_eq_nil_of_le (by simp;omega),List.nil_append,List.drop_drop,List.take_succ_eq_append_getElem hk,
  List.append_assoc,List.append_assoc,List.length_take,show k+(k+1-min k l.length)=k+1 by omega]
theorem xi (h:l.length=r.length) {i:Nat}:(mix l r k)[i]? =if i<k then l[i]? else r[i]? :=by
 unfold mix
 split
 ·rename_i h1
  by_cases h2:i<l.length
  ·rw[List.getElem?_append_left (by simp;omega),List.getElem?_take,if_pos h1]
  ·rw[List.getElem?_append_right (by simp;omega),List.getElem?_drop,List.getElem?_eq_none (by simp;omega),List.getElem?_eq_none (by omega)]
 ·by_cases h2:i<l.length
  ·rw[List.getElem?_append_right (by simp;omega),List.getElem?_drop,List.length_take]
   congr 1
   omega
  ·rw[List.getElem?_eq_none (by simp;omega),List.getElem?_eq_none (by omega)]
theorem cI {n:Nat} {x:Int} {xs:List Int} (h:n<xs.length):xs.take n++[x]++xs.drop (n+1)=xs.set n x:=by
 rw[List.set_eq_take_append_cons_drop,if_pos h,List.append_assoc]
 rfl
end
end Go.Proofs.YtneocijmbnhblaaGreat
namespace Go.Proofs.YtneocijmbnhblaaGreat
open Plain
theorem bm {α:Type} {xs:List α} {k:Nat} (h:k<xs.length):xs.take (k+1)=xs.take k++[xs[k]]:=List.take_succ_eq_append_getElem h
theorem gC {α:Type} {xs:List α} {k:Nat} {p:α→Bool} (h:k<xs.length) (hp:p xs[k]=true):(xs.take (k+1)).filter p=(xs.take k).filter p++[xs[k]]:=by
 rw[bm h,List.filter_append];simp [hp]
theorem fo {α:Type} {xs:List α} {k:Nat} {p:α→Bool} (h:k<xs.length) (hp:p xs[k]=false):(xs.take (k+1)).filter p=(xs.take k).filter p:=by
 rw[bm h,List.filter_append];simp [hp]
theorem ez {α:Type} (xs:List α) (k:Nat) (p:α→Bool):((xs.take k).filter p).length≤xs.length:=by
 have:=List.length_filter_le p (xs.take k)
 have:=List.length_take_le k xs
 simp at*;omega
theorem ao {xs:List Int} {k:Nat} (h:k<xs.length):xs.getD k 0=xs[k]:=by simp [h]
theorem dD {xs:List Int} {k:Nat} (hk:k<xs.length) (h:xs[k]∉xs.take k):place xs xs[k]=k:=by
 have:=y7 (xs:=xs) (k:=k) hk (by rw[ao hk];exact h)
 rwa [ao hk]at this
theorem eE {xs:List Int} {x:Int} (h:x∈xs):∃ k:Nat,∃ hk:k<xs.length,place xs x=k∧xs[k]=x∧x∉xs.take k:=by
 refine⟨xs.idxOf x,List.idxOf_lt_length_of_mem h,by simp [place,h],List.getElem_idxOf _,fun hm=> ?_⟩
 have h1:xs.idxOf x=(xs.take (xs.idxOf x)++xs.drop (xs.idxOf x)).idxOf x:=by rw[List.take_append_drop]
 rw[List.idxOf_append,if_pos hm]at h1
 have h2:=List.idxOf_lt_length_of_mem hm
 rw[List.length_take]at h2
 omega
theorem iZ {xs:List Int} {k:Nat} {x:Int} (h:k<xs.length) (h1:x∉xs.take k) (h2:x≠xs[k]):x∉xs.take (k+1):=by
 rw[bm h,List.mem_append];simp [h1,h2]
def aE (t:Ten) (l:Int):Int:=t.dims.getD (place t.labels l).toNat 0
def aK (a b:List Int):List Int:=a++b.filter fun x=> !has a x
def aM (a b:Ten):List Int:=(aK a.labels b.labels).map fun l=>if has a.labels l=true then aE a l else aE b l
def fP (a b:Ten):Bool:=(aK a.labels b.labels).all fun l=> !(has a.labels l&&has b.labels l&&aE a l !=aE b l)
theorem Plain.axOk.len {ls ds:List Int} (h:axOk ls ds):ls.length=ds.length:=h.2.1
theorem Plain.axOk.fresh {ls ds:List Int} (h:axOk ls ds) {k:Nat} (hk:k<ls.length):ls[k]∉ls.take k:=by
 have:=(h.2.2 k hk).2.2.2.2
 rwa [ao hk]at this
theorem dq {t:Ten} (h:t.labels.length=t.dims.length) {l:Int} (hl:l∈t.labels):∃ i:Nat,i<t.labels.length∧i<t.dims.length∧place t.labels l=i∧t.dims[i]? =some (aE t l):=by
 obtain⟨i,hi,e,_,_⟩:=eE hl
 refine⟨i,hi,by omega,e, ?_⟩
 have hi':i<t.dims.length:=by omega
 simp [aE,e,hi']
theorem fN {t:Ten} (h:axOk t.labels t.dims) {k:Nat} (hk:k<t.labels.length) (hk':k<t.dims.length):aE t t.labels[k]=t.dims[k]:=by
 simp [aE,dD hk (h.fresh hk),hk']
theorem kc {t:Ten} (h:axOk t.labels t.dims):t.labels.map (aE t)=t.dims:=by
 refine List.ext_getElem (by simp [h.len]) fun k h1 h2=> ?_
 rw[List.getElem_map]
 exact fN h (by simpa using h1) h2
theorem aX {a b:List Int} {x:Int}:x∈aK a b↔x∈a∨x∈b:=by
 simp only[aK,List.mem_append,List.mem_filter,Bool.not_eq_true',bH]
 by_cases h:x∈a<;>simp [h]
theorem kG (a b:List Int):(aK a b).length≤a.length+b.length:=by
 have:=List.length_filter_le (fun x=> !has a x) b
 simp [aK];omega
theorem cJ {t:Ten} (h:axOk t.labels t.dims) {l:Int} (hl:l∈t.labels):1≤aE t l∧aE t l≤8:=by
 obtain⟨i,_,hi,_,e⟩:=dq h.len hl
 rw[List.getElem?_eq_getElem hi]at e
 simp at e
 rw[← e]
 exact h.dim _ (List.getElem_mem _)
theorem mD {a b:Ten} (ha:axOk a.labels a.dims) (hb:axOk b.labels b.dims):∀ d∈aM a b,1≤d∧d≤8:=by
 intro d hd
 simp only[aM,List.mem_map]at hd
 obtain⟨l,hl,rfl⟩:=hd
 split
 ·rename_i h
  exact cJ ha (ba.1 h)
 ·rename_i h
  have h':l∉a.labels:=fun hm=>h (ba.2 hm)
  exact cJ hb ((aX.1 hl).resolve_left h')
def wh (a b:Ten) (k:Nat):List Int:=a.dims++((b.labels.take k).filter fun x=> !has a.labels x).map (aE b)
theorem AA {a b:Ten} (ha:axOk a.labels a.dims):aM a b=wh a b b.labels.length:=by
 rw[aM,aK,List.map_append,wh,List.take_length]
 congr 1
 ·refine Eq.trans (List.map_congr_left fun l hl=> ?_) (kc ha)
  rw[if_pos (ba.2 hl)]
 ·refine List.map_congr_left fun l hl=> ?_
  simp only[List.mem_filter,Bool.not_eq_true']at hl
  rw[if_neg (by rw[hl.2];simp)]
theorem oQ {ls:List Int} {f:Int→Int} (h:∀ l∈ls,1≤f l) (p:Int→Bool):ab ((ls.filter p).map f)≤ab (ls.map f):=by
 induction ls with
 | nil=>simp
 | cons x l ih=>
  have ih:=ih fun y hy=>h y (List.mem_cons_of_mem _ hy)
  have hx:=h x List.mem_cons_self
  have hp:1≤ab (l.map f):=bi _ fun d hd=>by
   obtain⟨y,hy,rfl⟩:=List.mem_map.1 hd
   exact h y (List.mem_cons_of_mem _ hy)
  rw[List.map_cons,bo]
  have h1:1*ab (l.map f)≤f x*ab (l.map f):=Int.mul_le_mul_of_nonneg_right hx (by omega)
  by_cases hpx:p x=true
  ·rw[List.filter_cons_of_pos hpx,List.map_cons,bo]
   exact Int.mul_le_mul_of_nonneg_left ih (by omega)
  ·rw[List.filter_cons_of_neg hpx]
   omega
theorem qA {a b:Ten} (ha:axOk a.labels a.dims) (hb:axOk b.labels b.dims) (pa:ab a.dims≤4096) (pb:ab b.dims≤4096):1≤ab (aM a b)∧ab (aM a b)≤16777216:=by
 refine⟨bi _ fun d hd=>(mD ha hb d hd).1, ?_⟩
 rw[AA ha,wh,List.take_length,dJ]
 have h1:=oQ (ls:=b.labels) (f:=aE b) (fun l hl=>(cJ hb hl).1) (fun x=> !has a.labels x)
 rw[kc hb]at h1
 have h2:1≤ab a.dims:=bi _ fun d hd=>(ha.dim d hd).1
 have h3:0≤ab ((b.labels.filter fun x=> !has a.labels x).map (aE b)):=by
  have:=bi ((b.labels.filter fun x=> !has a.labels x).map (aE b)) fun d hd=>by
   obtain⟨y,hy,rfl⟩:=List.mem_map.1 hd
   exact(cJ hb (List.mem_filter.1 hy).1).1
  omega
 calc ab a.dims*ab ((b.labels.filter fun x=> !has a.labels x).map (aE b))≤4096*4096:=Int.mul_le_mul pa (by omega) h3 (by omega)
  _=16777216:=by decide
theorem yy {a b:Ten} {l:Int} (h1:l∈a.labels) (h2:l∈b.labels) (h:aE a l≠aE b l):fP a b=false:=by
 rw[fP,List.all_eq_false]
 exact⟨l,aX.2 (.inl h1),by simp [ba.2 h1,ba.2 h2,h]⟩
theorem wi {a b:Ten} (h:∀ l,l∈a.labels→l∈b.labels→aE a l=aE b l):fP a b=true:=by
 rw[fP,List.all_eq_true]
 intro l _
 by_cases h1:l∈a.labels
 ·by_cases h2:l∈b.labels
  ·simp [h l h1 h2]
  ·simp [bH.2 h2]
 ·simp [bH.2 h1]
theorem qz {a b:Ten} (h:fP a b=true) {l:Int} (h1:l∈a.labels) (h2:l∈b.labels):aE a l=aE b l:=by
 by_cases e:aE a l=aE b l
 ·exact e
 ·rw[yy h1 h2 e]at h;cases h
def mg (r:Rg) (out:List Int) (i j:Nat) (a b:Int):List Int:=
 if i+j<out.length then out.set (i+j) ((out.getD (i+j) 0+a*b).tmod r.p)
 else if r.k=8 then out.set (i+j-4) ((out.getD (i+j-4) 0+(r.p-a)*b).tmod r.p) else out
def bT (r:Rg) (y:List Int) (i:Nat) (a:Int) (out:List Int):Nat→List Int
 | 0=>out
 | j+1=>mg r (bT r y i a out j) i j a (y.getD j 0)
def da (r:Rg) (x y out:List Int):Nat→List Int
 | 0=>out
 | i+1=>bT r y i (x.getD i 0) (da r x y out i) y.length
def tu (r:Rg) (out:List Int) (i j:Nat) (a b:Int):List Int:=
 if i+j<out.length then out.set (i+j) ((out.getD (i+j) 0+(a*b).tmod r.p).tmod r.p)
 else if r.k=8 then out.set (i+j-4) ((out.getD (i+j-4) 0+r.p-(a*b).tmod r.p).tmod r.p) else out
def iB (r:Rg) (y:List Int) (i:Nat) (a:Int) (out:List Int):Nat→List Int
 | 0=>out
 | j+1=>tu r (iB r y i a out j) i j a (y.getD j 0)
def wm (r:Rg) (x y out:List Int):Nat→List Int
 | 0=>out
 | i+1=>iB r y i (x.getD i 0) (wm r x y out i) y.length
def lowP (p:Int) (xs:List Int):Prop:=∀ k,k<xs.length→0≤xs.getD k 0∧xs.getD k 0<p
theorem lowP.at {p:Int} {xs:List Int} (h:lowP p xs) (hp:0<p) (k:Nat):0≤xs.getD k 0∧xs.getD k 0<p:=by
 by_cases hk:k<xs.length
 ·exact h k hk
 ·simp [List.getD_eq_getElem?_getD,List.getElem?_eq_none (Nat.le_of_not_lt hk),hp]
theorem lowP.mem {p:Int} {xs:List Int} (h:lowP p xs):∀ x∈xs,0≤x∧x<p:=by
 intro x hx
 obtain⟨k,hk,rfl⟩:=List.getElem_of_mem hx
 have:=h k hk
 simpa [List.getD_eq_getElem?_getD,hk]using this
theorem lowP.set {p:Int} {xs:List Int} {n:Nat} {v:Int} (h:lowP p xs) (hv:0≤v∧v<p):lowP p (xs.set n v):=by
 intro k hk
 have hk':k<xs.length:=by simpa using hk
 rw[List.getD_eq_getElem?_getD,List.getElem?_set]
 split
 ·split
  ·simpa using hv
  ·simp;omega
 ·exact h k hk'
theorem jN {p:Int} (hp:0<p) (n:Nat):lowP p (List.replicate n 0):=by
 intro k hk
 simp [List.getD_eq_getElem?_getD]
 have:k<n:=by simpa using hk
 simp [this,hp]
theorem sZ {a b p:Int} (ha:0≤a∧a<p) (hb:0≤b∧b<p) (hp:p≤1000003):0≤a*b∧a*b≤1000006000009:=by
 refine⟨Int.mul_nonneg ha.1 hb.1, ?_⟩
 have h1:a*b≤a*1000003:=Int.mul_le_mul_of_nonneg_left (by omega) ha.1
 omega
theorem tm {a p:Int} (h:0≤a):a.tmod p=a % p:=Int.tmod_eq_emod_of_nonneg h
theorem tmb {a p:Int} (h:0≤a) (hp:0<p):0≤a.tmod p∧a.tmod p<p:=by
 rw[tm h];exact⟨Int.emod_nonneg _ (by omega),Int.emod_lt_of_pos _ hp⟩
theorem Ag {r:Rg} {out:List Int} {i j:Nat} {a b:Int} (hp:2≤r.p∧r.p≤1000003) (ho:lowP r.p out) (ha:0≤a∧a<r.p) (hb:0≤b∧b<r.p):
  tu r out i j a b=mg r out i j a b∧lowP r.p (mg r out i j a b)∧(mg r out i j a b).length=out.length:=by
 have hab:=sZ ha hb hp.2
 have hm:=tmb hab.1 (show 0<r.p by omega)
 have h1:=ho.at (by omega) (i+j)
 have h2:=ho.at (by omega) (i+j-4)
 have hpa:0≤(r.p-a)*b:=Int.mul_nonneg (by omega) hb.1
 unfold tu mg
 refine⟨?_, ?_, ?_⟩
 ·split
  ·congr 1
   rw[tm hab.1]at hm ⊢
   rw[tm (show 0≤out.getD (i+j) 0+a*b % r.p by omega),tm (show 0≤out.getD (i+j) 0+a*b by omega)]
   rw[Int.add_emod,Int.emod_emod_of_dvd _ (Int.dvd_refl _), ← Int.add_emod]
  ·split
   ·congr 1
    rw[tm hab.1]at hm ⊢
    rw[tm (show 0≤out.getD (i+j-4) 0+r.p-a*b % r.p by omega),tm (show 0≤out.getD (i+j-4) 0+(r.p-a)*b by omega)]
    have e:(r.p-a)*b=r.p*b-a*b:=Int.sub_mul ..
    rw[e]
    have e1:out.getD (i+j-4) 0+r.p-a*b % r.p=out.getD (i+j-4) 0+(r.p-a*b % r.p):=by omega
    have e2:out.getD (i+j-4) 0+(r.p*b-a*b)=(out.getD (i+j-4) 0-a*b)+r.p*b:=by omega
    rw[e1,e2,Int.add_mul_emod_self_left]
    have e3:out.getD (i+j-4) 0+(r.p-a*b % r.p)=(out.getD (i+j-4) 0-a*b % r.p)+r.p*1:=by omega
    rw[e3,Int.add_mul_emod_self_left,Int.sub_emod,Int.emod_emod_of_dvd _ (Int.dvd_refl _), ← Int.sub_emod]
   ·rfl
 ·split
  ·exact ho.set (tmb (by omega) (by omega))
  ·split
   ·exact ho.set (tmb (by omega) (by omega))
   ·exact ho
 ·split
  ·simp
  ·split<;>simp
theorem fG {r:Rg} {y out:List Int} {i:Nat} {a:Int} (hp:2≤r.p∧r.p≤1000003) (ho:lowP r.p out) (ha:0≤a∧a<r.p) (hy:lowP r.p y):
  ∀ j,iB r y i a out j=bT r y i a out j∧lowP r.p (bT r y i a out j)∧(bT r y i a out j).length=out.length
 | 0=>⟨rfl,ho,rfl⟩
 | j+1=>by
  obtain⟨h1,h2,h3⟩:=fG hp ho ha hy j
  obtain⟨h4,h5,h6⟩:=Ag (i:=i) (j:=j) hp h2 ha (hy.at (by omega) j)
  refine⟨?_,h5,h6.trans h3⟩
  rw[iB,h1,h4];rfl
theorem iu {r:Rg} {x y out:List Int} (hp:2≤r.p∧r.p≤1000003) (ho:lowP r.p out) (hx:lowP r.p x) (hy:lowP r.p y):
  ∀ i,wm r x y out i=da r x y out i∧lowP r.p (da r x y out i)∧(da r x y out i).length=out.length
 | 0=>⟨rfl,ho,rfl⟩
 | i+1=>by
  obtain⟨h1,h2,h3⟩:=iu hp ho hx hy i
  obtain⟨h4,h5,h6⟩:=fG (i:=i) hp h2 (hx.at (by omega) i) hy y.length
  refine⟨?_,h5,h6.trans h3⟩
  rw[wm,h1,h4];rfl
def andI (a b:Int):Int:=IntKind.i64.wrap (BitVec.ofInt 64 a&&& BitVec.ofInt 64 b).toNat
def orI (a b:Int):Int:=IntKind.i64.wrap (BitVec.ofInt 64 a||| BitVec.ofInt 64 b).toNat
def mulE (r:Rg) (x y:List Int):List Int:=
 if r.k=1∨r.k=5 then [min (x.getD 0 0) (y.getD 0 0)]
 else if r.k=2 then [(x.getD 0 0*y.getD 0 0).tmod r.p]
 else if r.k=3 then [min (x.getD 0 0*y.getD 0 0) r.p]
 else if r.k=4 then [min (x.getD 0 0+y.getD 0 0) r.p]
 else if r.k=6 then [andI (x.getD 0 0) (y.getD 0 0)]
 else da r x y (List.replicate x.length 0) x.length
theorem Bx (x:Int):I64 (IntKind.i64.wrap x):=by
 rw[IntKind.wrap_i64];constructor<;>omega
theorem D7 {a b:Int} (ha:0≤a∧a≤1) (hb:0≤b∧b≤1):andI a b=min a b:=by
 have h1:a=0∨a=1:=by omega
 have h2:b=0∨b=1:=by omega
 rcases h1 with rfl | rfl<;>rcases h2 with rfl | rfl<;>decide
theorem E1 {a b:Int} (ha:0≤a∧a≤1) (hb:0≤b∧b≤1):orI a b=max a b:=by
 have h1:a=0∨a=1:=by omega
 have h2:b=0∨b=1:=by omega
 rcases h1 with rfl | rfl<;>rcases h2 with rfl | rfl<;>decide
theorem bJ {r:Rg} {x:List Int} (hr:aq r=true) (h:fits r x) (hk:r.k=2∨r.k=7∨r.k=8):lowP r.p x∧2≤r.p∧r.p≤1000003:=by
 have ht:top r=r.p-1:=by unfold top;rw[if_neg (by omega),if_neg (by omega),if_neg (by omega)]
 have hp:2≤r.p∧r.p≤1000003:=by rcases aR hr with h | h | h | h | h | h | h | h<;>first | omega | exact bV h.2.1
 exact⟨fun k hk=>by have:=h k hk;omega,hp⟩
theorem ka {r:Rg} (hr:aq r=true) (hk:¬ (r.k=7∨r.k=8)):ar r=1:=by
 unfold ar
 rw[if_neg (by omega),if_neg (by omega)]
theorem eu {r:Rg} {x y:List Int} {wd:Nat} (hr:aq r=true) (hw:ar r=wd) (hx:fits r x) (hy:fits r y) (lx:x.length=wd) (ly:y.length=wd):(mulE r x y).length=wd∧∀ z∈mulE r x y,I64 z:=by
 have hwb:=cq hr
 have htb:=dP hr
 have x0:=hx 0 (by omega)
 have y0:=hy 0 (by omega)
 unfold mulE
 by_cases h7:r.k=7∨r.k=8
 ·rw[if_neg (by omega),if_neg (by omega),if_neg (by omega),if_neg (by omega),if_neg (by omega)]
  obtain⟨hlx,hp⟩:=bJ hr hx (by omega)
  obtain⟨hly,_⟩:=bJ hr hy (by omega)
  obtain⟨_,h1,h2⟩:=iu hp (jN (by omega) x.length) hlx hly x.length
  refine⟨by rw[h2];simpa using lx,fun z hz=> ?_⟩
  have:=h1.mem z hz
  exact⟨by omega,by omega⟩
 ·have hw1:=ka hr h7
  have hwd:wd=1:=by omega
  subst hwd
  have hmm:0≤x.getD 0 0*y.getD 0 0:=Int.mul_nonneg x0.1 y0.1
  have hmb:x.getD 0 0*y.getD 0 0≤x.getD 0 0*1048576:=Int.mul_le_mul_of_nonneg_left (by omega) x0.1
  split
  ·exact⟨rfl,fun z hz=>by simp only[List.mem_singleton]at hz;subst hz;exact⟨by omega,by omega⟩⟩
  ·split
   ·refine⟨rfl,fun z hz=> ?_⟩
    simp only[List.mem_singleton]at hz
    obtain⟨_,hp⟩:=bJ hr hx (by omega)
    have:=tmb hmm (show 0<r.p by omega)
    subst hz
    exact⟨by omega,by omega⟩
   ·have hp:r.k=3∨r.k=4→1≤r.p∧r.p≤1000000:=fun h=>by rcases aR hr with h | h | h | h | h | h | h | h<;>omega
    split
    ·refine⟨rfl,fun z hz=> ?_⟩
     simp only[List.mem_singleton]at hz
     have:=hp (.inl (by assumption))
     subst hz
     exact⟨by omega,by omega⟩
    ·split
     ·refine⟨rfl,fun z hz=> ?_⟩
      simp only[List.mem_singleton]at hz
      have:=hp (.inr (by assumption))
      subst hz
      exact⟨by omega,by omega⟩
     ·rw[if_pos (by rcases aR hr with h | h | h | h | h | h | h | h<;>omega)]
      refine⟨rfl,fun z hz=> ?_⟩
      simp only[List.mem_singleton]at hz
      subst hz
      exact Bx _
def sumI (xs:List Int):Int:=xs.foldr (· + ·) 0
theorem eW (x:Int) (xs:List Int):sumI (x :: xs)=x+sumI xs:=rfl
theorem lK {α:Type} (f g:α→Int):∀ (l:List α),sumI (l.map fun x=>f x+g x)=sumI (l.map f)+sumI (l.map g)
 | []=>rfl
 | x :: l=>by simp only[List.map_cons,eW,lK f g l];omega
theorem i5 {α:Type} (f:α→Int):∀ (l:List α),(∀ x∈l,f x=0)→sumI (l.map f)=0
 | [],_=>rfl
 | x :: l,h=>by simp only[List.map_cons,eW,h x (by simp),i5 f l (fun y hy=>h y (by simp [hy]))];rfl
theorem lJ (c l0:Int):∀ (l:List Int),l.Nodup→l0∈l→sumI (l.map fun x=>if x=l0 then c else 0)=c
 | [],_,h=>by cases h
 | x :: l,hn,hm=>by
  simp only[List.nodup_cons]at hn
  simp only[List.map_cons,eW]
  by_cases hx:x=l0
  ·subst hx
   rw[if_pos rfl,i5 _ l (fun y hy=>if_neg fun (e:y=x)=>hn.1 (e ▸ hy))]
   omega
  ·rw[if_neg hx,lJ c l0 l hn.2 (by simpa [Ne.symm hx]using hm)]
   omega
def aw:List Int→List Int→Int→Int
 | l :: ls,d :: ds,x=>if x=l then ab ds else aw ls ds x
 | _,_,_=>0
theorem l6:∀ (ls ds:List Int) (x:Int),x∉ls→aw ls ds x=0
 | [],_,_,_=>by simp [aw]
 | _ :: _,[],_,_=>by simp [aw]
 | l :: ls,d :: ds,x,h=>by
  simp only[List.mem_cons,not_or]at h
  rw[aw,if_neg h.1,l6 ls ds x h.2]
theorem iQ:∀ (ls ds:List Int) (x:Int),(∀ d∈ds,1≤d)→0≤aw ls ds x∧aw ls ds x≤ab ds
 | [],ds,_,h=>by
  simp only[aw]
  have:=bi ds h
  omega
 | _ :: _,[],_,_=>by simp [aw,ab]
 | l :: ls,d :: ds,x,h=>by
  have hp:=bi ds (fun y hy=>h y (by simp [hy]))
  have hd:=h d (by simp)
  have hm:ab ds≤d*ab ds:=by
   have:=Int.mul_le_mul_of_nonneg_right hd (show 0≤ab ds by omega)
   omega
  have:=iQ ls ds x (fun y hy=>h y (by simp [hy]))
  rw[aw,bo]
  split<;>omega
def gP:List Int→List Int→Int
 | d :: ds,i :: is=>i*ab ds+gP ds is
 | _,_=>0
theorem E3 {ds is:List Int} (h:is.length=ds.length):offs ds is=gP ds is:=by
 have key:∀ k,k≤ds.length→et ds is k*ab (ds.drop k)+gP (ds.drop k) (is.drop k)=gP ds is:=by
  intro k
  induction k with
  | zero=>intro _;simp [et]
  | succ k ih=>
   intro hk
   rw[← ih (by omega),jL]
   have e1:ds.drop k=ds[k] :: ds.drop (k+1):=List.drop_eq_getElem_cons (by omega)
   have e2:is.drop k=is[k] :: is.drop (k+1):=List.drop_eq_getElem_cons (by omega)
   rw[e1,e2,gP,bo,ao (show k<ds.length by omega),ao (show k<is.length by omega),Int.add_mul,Int.mul_assoc]
   omega
 have:=key ds.length (Nat.le_refl _)
 rw[← this]
 simp [offs,ab,gP]
theorem rV (v:Int→Int) (L:List Int) (hL:L.Nodup):∀ (ls ds:List Int),ls.length=ds.length→ls.Nodup→(∀ l∈ls,l∈L)→gP ds (ls.map v)=sumI (L.map fun l=>aw ls ds l*v l)
 | [],[],_,_,_=>by simp only[List.map_nil,gP,aw,Int.zero_mul];exact(i5 _ _ (fun _ _=>rfl)).symm
 | [],_ :: _,h,_,_=>by simp at h
 | _ :: _,[],h,_,_=>by simp at h
 | l0 :: ls,d :: ds,h,hn,hs=>by
  simp only[List.nodup_cons]at hn
  simp only[List.map_cons,gP]
  rw[rV v L hL ls ds (by simpa using h) hn.2 (fun l hl=>hs l (by simp [hl]))]
  rw[← lJ (v l0*ab ds) l0 L hL (hs l0 (by simp)), ← lK]
  congr 1
  refine List.map_congr_left fun l _=> ?_
  by_cases e:l=l0
  ·subst e
   rw[aw,if_pos rfl,if_pos rfl,l6 ls ds l hn.1]
   rw[Int.mul_comm];omega
  ·rw[aw,if_neg e,if_neg e];omega
theorem gn {ls:List Int} (h:∀ k (hk:k<ls.length),ls[k]∉ls.take k):ls.Nodup:=by
 rw[List.Nodup,List.pairwise_iff_getElem]
 intro i j hi hj hij e
 refine h j hj ?_
 rw[← e]
 exact List.mem_iff_getElem.2 ⟨i,by simp;omega,by simp⟩
theorem bG {ls ds:List Int} (h:axOk ls ds):ls.Nodup:=gn fun k hk=>h.fresh hk
def dotI:List Int→List Int→Int
 | a :: xs,b :: ys=>a*b+dotI xs ys
 | _,_=>0
theorem qM (f g:Int→Int):∀ L:List Int,dotI (L.map f) (L.map g)=sumI (L.map fun l=>f l*g l)
 | []=>rfl
 | l :: L=>by simp only[List.map_cons,dotI,eW,qM f g L]
theorem sw:∀ (xs ys:List Int) (a b:Int),xs.length=ys.length→dotI (xs++[a]) (ys++[b])=dotI xs ys+a*b
 | [],[],a,b,_=>by simp [dotI]
 | [],_ :: _,_,_,h=>by simp at h
 | _ :: _,[],_,_,h=>by simp at h
 | x :: xs,y :: ys,a,b,h=>by
  simp only[List.cons_append,dotI]
  rw[sw xs ys a b (by simpa using h)]
  omega
def atL (L xs:List Int) (l:Int):Int:=xs.getD (place L l).toNat 0
theorem D3 {L xs:List Int} (hn:L.Nodup) (h:xs.length=L.length):L.map (atL L xs)=xs:=by
 refine List.ext_getElem (by simp [h]) fun k h1 h2=> ?_
 have hk:k<L.length:=by simpa using h1
 have hf:L[k]∉L.take k:=by
  intro hm
  obtain⟨i,hi,e⟩:=List.mem_iff_getElem.1 hm
  have hi':i<k:=by simp at hi;omega
  simp at e
  exact(List.pairwise_iff_getElem.1 hn) i k (by omega) hk hi' e
 simp only[List.getElem_map,atL,dD hk hf,Int.toNat_natCast]
 exact ao (by omega)
theorem wG (n:Int):an [] n=[]:=rfl
theorem cl (d:Int) (ds:List Int) (n:Int):an (d :: ds) n=((n / ab ds) % d) :: an ds n:=by
 simp only[an,List.length_cons,List.range_succ_eq_map,List.map_cons,List.map_map]
 have h0:oK (d :: ds) n 0=n / ab ds % d:=by simp [oK]
 rw[h0]
 congr 1
theorem fq:∀ (ds:List Int) (n:Int),(∀ d∈ds,1≤d)→∀ k,k<ds.length→0≤(an ds n).getD k 0∧(an ds n).getD k 0<ds.getD k 0
 | [],_,_,k,hk=>by simp at hk
 | d :: ds,n,h,0,_=>by
  have hd:=h d (by simp)
  rw[cl]
  simp only[List.getD_cons_zero]
  exact⟨Int.emod_nonneg _ (by omega),Int.emod_lt_of_pos _ (by omega)⟩
 | d :: ds,n,h,k+1,hk=>by
  rw[cl]
  simp only[List.getD_cons_succ]
  exact fq ds n (fun y hy=>h y (by simp [hy])) k (by simpa using hk)
theorem B2 {n p:Int} (hp:0<p) (h:(n+1) % p≠0):(n+1) / p=n / p:=by
 have h1:=Int.emod_add_mul_ediv (n+1) p
 have h2:=Int.emod_nonneg (n+1) (show p≠0 by omega)
 have h3:=Int.emod_lt_of_pos (n+1) hp
 have e:n=(n+1) % p-1+p*((n+1) / p):=by omega
 have h4:n / p=((n+1) % p-1+p*((n+1) / p)) / p:=congrArg (· / p) e
 rw[Int.add_mul_ediv_left _ _ (show p≠0 by omega),Int.ediv_eq_zero_of_lt (show 0≤(n+1) % p-1 by omega) (by omega)]at h4
 omega
theorem vw {n p:Int} (hp:0<p) (h:(n+1) % p=0):(n+1) / p=n / p+1:=by
 have h1:=Int.emod_add_mul_ediv (n+1) p
 have e:n=p-1+p*((n+1) / p-1):=by rw[Int.mul_sub];omega
 have h4:n / p=(p-1+p*((n+1) / p-1)) / p:=congrArg (· / p) e
 rw[Int.add_mul_ediv_left _ _ (show p≠0 by omega),Int.ediv_eq_zero_of_lt (show 0≤p-1 by omega) (by omega)]at h4
 omega
theorem oI:∀ (ds:List Int) (n:Int) (i:Nat),(∀ d∈ds,1≤d)→(n+1) % ab (ds.drop i)≠0→i≤ds.length→(an ds (n+1)).take i=(an ds n).take i
 | _,_,0,_,_,_=>by simp
 | [],_,i+1,_,_,h=>by simp at h
 | d :: ds,n,i+1,h,hn,hi=>by
  have hds:∀ d∈ds,1≤d:=fun y hy=>h y (by simp [hy])
  have hp:=bi ds hds
  simp only[List.drop_succ_cons]at hn
  have hne:(n+1) % ab ds≠0:=by
   intro e
   refine hn ?_
   have hdvd:ab (ds.drop i) ∣ ab ds:=by
    have:=dJ (ds.take i) (ds.drop i)
    rw[List.take_append_drop]at this
    rw[this]
    exact Int.dvd_mul_left _ _
   exact Int.emod_eq_zero_of_dvd (Int.dvd_trans hdvd (Int.dvd_of_emod_eq_zero e))
  rw[cl,cl,List.take_succ_cons,List.take_succ_cons,B2 (by omega) hne,oI ds n i hds hn (by simpa using hi)]
theorem vC {ds:List Int} {n:Int} {i:Nat} (h:∀ d∈ds,1≤d) (hi:i<ds.length) (hw:(n+1) % ab (ds.drop (i+1))=0):
  ((an ds n).getD i 0+1<ds.getD i 0→(n+1) % ab (ds.drop i)≠0∧(an ds (n+1)).getD i 0=(an ds n).getD i 0+1)∧
  (¬ (an ds n).getD i 0+1<ds.getD i 0→(n+1) % ab (ds.drop i)=0∧(an ds (n+1)).getD i 0=0):=by
 have e:ds.drop i=ds[i] :: ds.drop (i+1):=List.drop_eq_getElem_cons hi
 have hdi:=h ds[i] (List.getElem_mem hi)
 have hP:=bi (ds.drop (i+1)) (fun y hy=>h y (List.mem_of_mem_drop hy))
 have g:∀ m,(an ds m).getD i 0=(m / ab (ds.drop (i+1))) % ds[i]:=fun m=>by
  rw[jg _ _ _ hi,oK,ao hi]
 rw[g,g,ao hi,e,bo,vw (by omega) hw]
 generalize hP':ab (ds.drop (i+1))=P at*
 generalize ds[i]=d at*
 have hq:=vw (n:=n) (p:=P) (by omega) hw
 have h1:=Int.emod_add_mul_ediv (n+1) P
 rw[hw,hq]at h1
 have hmod:(n+1) % (d*P)=P*((n / P+1) % d):=by
  rw[show n+1=P*(n / P+1)by omega,Int.mul_comm d P]
  exact Int.mul_emod_mul_of_pos _ _ (by omega)
 have hb1:=Int.emod_nonneg (n / P) (show d≠0 by omega)
 have hb2:=Int.emod_lt_of_pos (n / P) (show 0<d by omega)
 have h5:=Int.emod_add_mul_ediv (n / P) d
 rw[hmod]
 constructor
 ·intro hlt
  have hm:(n / P+1) % d=(n / P) % d+1:=by
   have e1:n / P+1=((n / P) % d+1)+d*(n / P / d):=by omega
   have e2:=congrArg (· % d) e1
   simp only[Int.add_mul_emod_self_left]at e2
   rw[e2,Int.emod_eq_of_lt (by omega) hlt]
  rw[hm]
  refine⟨fun e0=> ?_,rfl⟩
  rcases Int.mul_eq_zero.1 e0 with h | h<;>omega
 ·intro hge
  have hm:(n / P+1) % d=0:=by
   have e1:n / P+1=d*(n / P / d+1):=by rw[Int.mul_add];omega
   rw[e1];exact Int.mul_emod_right _ _
  rw[hm]
  exact⟨by omega,rfl⟩
theorem pG:∀ {L ls:List Int},L.Nodup→(∀ x∈L,x∈ls)→ls.length≤L.length→∀ x∈ls,x∈L
 | [],ls,_,_,h,x,hx=>by
  have:ls=[]:=List.eq_nil_of_length_eq_zero (by simpa using h)
  rw[this]at hx;cases hx
 | l :: L,ls,hn,hs,h,x,hx=>by
  simp only[List.nodup_cons]at hn
  have hl:l∈ls:=hs l (by simp)
  by_cases e:x=l
  ·simp [e]
  ·have:=pG (L:=L) (ls:=ls.erase l) hn.2 (fun y hy=>(List.mem_erase_of_ne (fun (e:y=l)=>hn.1 (e ▸ hy))).2 (hs y (by simp [hy]))) (by rw[List.length_erase_of_mem hl];simp at h;omega) x ((List.mem_erase_of_ne e).2 hx)
   simp [this]
theorem om {f:Int→Int}:∀ {ls:List Int} {l:Int},l∈ls→ab (ls.map f)=f l*ab ((ls.erase l).map f)
 | [],_,h=>by cases h
 | x :: ls,l,h=>by
  by_cases e:x=l
  ·subst e
   simp [bo]
  ·have h':l∈ls:=by simpa [Ne.symm e]using h
   rw[List.erase_cons_tail (by simpa using e),List.map_cons,List.map_cons,bo,bo,om h', ← Int.mul_assoc, ← Int.mul_assoc,Int.mul_comm (f x)]
theorem m4 {f:Int→Int}:∀ {L ls:List Int},L.Nodup→(∀ x∈L,x∈ls)→(∀ x∈ls,1≤f x)→ab (L.map f)≤ab (ls.map f)
 | [],ls,_,_,hf=>by
  have:=bi (ls.map f) (fun d hd=>by simp only[List.mem_map]at hd;obtain⟨x,hx,rfl⟩:=hd;exact hf x hx)
  simpa [ab]using this
 | l :: L,ls,hn,hs,hf=>by
  simp only[List.nodup_cons]at hn
  have hl:l∈ls:=hs l (by simp)
  have ih:=m4 (L:=L) (ls:=ls.erase l) (f:=f) hn.2 (fun y hy=>(List.mem_erase_of_ne (fun (e:y=l)=>hn.1 (e ▸ hy))).2 (hs y (by simp [hy]))) (fun x hx=>hf x (List.mem_of_mem_erase hx))
  rw[List.map_cons,bo,om hl]
  exact Int.mul_le_mul_of_nonneg_left ih (by have:=hf l hl;omega)
def gath (src:List Int) (wd:Nat) (f:Nat→Nat):Nat→List Int
 | 0=>[]
 | i+1=>gath src wd f i++(src.drop (f i*wd)).take wd
theorem fK {src:List Int} {wd:Nat} {f:Nat→Nat}:∀ {n:Nat},(∀ i,i<n→f i*wd+wd≤src.length)→(gath src wd f n).length=n*wd
 | 0,_=>by simp [gath]
 | n+1,h=>by
  have h1:=h n (by omega)
  rw[gath,List.length_append,fK (n:=n) (fun i hi=>h i (by omega)),Nat.add_mul,Nat.one_mul]
  simp;omega
theorem vh {src:List Int} {wd:Nat} {f:Nat→Nat}:∀ {n:Nat},∀ x∈gath src wd f n,x∈src
 | 0,x,h=>by simp [gath]at h
 | n+1,x,h=>by
  rw[gath,List.mem_append]at h
  rcases h with h | h
  ·exact vh (n:=n) x h
  ·exact List.mem_of_mem_drop (List.mem_of_mem_take h)
theorem l9 {ls ds L xs:List Int} (hl:ls.length=ds.length) (hn:ls.Nodup) (hL:L.Nodup) (hs:∀ l∈ls,l∈L) (hx:xs.length=L.length):
  dotI (L.map (aw ls ds)) xs=offs ds (ls.map (atL L xs)):=by
 rw[E3 (by simp [hl]),rV (atL L xs) L hL ls ds hl hn hs]
 rw[← qM,D3 hL hx]
theorem xE {L xs:List Int} {l:Int} (h:l∈L) (hx:xs.length=L.length):∃ k,k<L.length∧k<xs.length∧L[k]? =some l∧atL L xs l=xs.getD k 0:=by
 obtain⟨k,hk,e1,e2,_⟩:=eE h
 exact⟨k,hk,by omega,by rw[List.getElem?_eq_getElem hk,e2],by rw[atL,e1];rfl⟩
def eT (ls L xs old:List Int) (k:Nat):List Int:=(List.range ls.length).map fun j=>if ls.getD j 0∈L.take k then atL L xs (ls.getD j 0) else old.getD j 0
theorem yK (ls L xs old:List Int) (k:Nat):(eT ls L xs old k).length=ls.length:=by simp [eT]
theorem qJ {ls L xs old:List Int} (h:old.length=ls.length):eT ls L xs old 0=old:=by
 refine List.ext_getElem (by simp [eT,h]) fun j h1 h2=> ?_
 simp only[eT,List.getElem_map,List.getElem_range,List.take_zero,List.not_mem_nil,if_false]
 exact ao h2
theorem uR {L:List Int} (h:L.Nodup) {i j:Nat} (hi:i<L.length) (hj:j<L.length) (e:L[i]=L[j]):i=j:=by
 rcases Nat.lt_trichotomy i j with h1 | h1 | h1
 ·exact absurd e (List.pairwise_iff_getElem.1 h i j hi hj h1)
 ·exact h1
 ·exact absurd e.symm (List.pairwise_iff_getElem.1 h j i hj hi h1)
theorem ec {L:List Int} (h:L.Nodup) {k:Nat} (hk:k<L.length):L[k]∉L.take k:=by
 intro hm
 obtain⟨i,hi,e⟩:=List.mem_iff_getElem.1 hm
 have hi':i<k:=by simp at hi;omega
 simp at e
 have:=uR h (by omega) hk e
 omega
theorem EF {L xs:List Int} (h:L.Nodup) {k:Nat} (hk:k<L.length):atL L xs L[k]=xs.getD k 0:=by
 rw[atL,dD hk (ec h hk)];rfl
theorem wy {ls L xs old:List Int} {k:Nat} (hn:ls.Nodup) (hL:L.Nodup) (hk:k<L.length) (hm:L[k]∈ls):
  (eT ls L xs old k).set (place ls L[k]).toNat (xs.getD k 0)=eT ls L xs old (k+1):=by
 obtain⟨p,hp,e1,e2,_⟩:=eE hm
 rw[e1,Int.toNat_natCast]
 refine List.ext_getElem (by simp [eT]) fun j h1 h2=> ?_
 have hj:j<ls.length:=by simpa [eT]using h2
 rw[List.getElem_set]
 simp only[eT,List.getElem_map,List.getElem_range,ao hj,bm hk,List.mem_append,List.mem_singleton]
 by_cases e:p=j
 ·subst e
  rw[if_pos rfl,if_pos (.inr e2),e2,EF hL hk]
 ·rw[if_neg e]
  have hne:ls[j]≠L[k]:=fun e'=>e (uR hn hp hj (e2.trans e'.symm))
  by_cases hm':ls[j]∈L.take k
  ·rw[if_pos hm',if_pos (.inl hm')]
  ·rw[if_neg hm',if_neg (by simp [hm',hne])]
theorem wz {ls L xs old:List Int} (hs:∀ l∈ls,l∈L) {k:Nat} (hk:L.length≤k):eT ls L xs old k=ls.map (atL L xs):=by
 refine List.ext_getElem (by simp [eT]) fun j h1 h2=> ?_
 have hj:j<ls.length:=by simpa using h2
 simp only[eT,List.getElem_map,List.getElem_range,ao hj]
 rw[if_pos (by rw[List.take_of_length_le hk];exact hs _ (List.getElem_mem hj))]
theorem rN (a:Nat):∀ b,List.range (a+b)=List.range a++(List.range b).map (a+ ·)
 | 0=>by simp
 | b+1=>by
  rw[← Nat.add_assoc,List.range_succ,rN a b,List.range_succ,List.map_append,List.append_assoc];rfl
theorem ky (b:Nat):∀ a,List.range (a*b)=(List.range a).flatMap fun x=>(List.range b).map (x*b+ ·)
 | 0=>by simp
 | a+1=>by
  rw[Nat.add_mul,Nat.one_mul,rN,ky b a,List.range_succ,List.flatMap_append]
  simp
theorem oG {A:List Nat}:∀ {d v:Nat},v<d→((List.range d).flatMap fun x=>if x=v then A else [])=A
 | 0,_,h=>absurd h (Nat.not_lt_zero _)
 | d+1,v,h=>by
  rw[List.range_succ,List.flatMap_append]
  by_cases e:v=d
  ·subst e
   have:((List.range v).flatMap fun x=>if x=v then A else [])=[]:=by
    rw[List.flatMap_eq_nil_iff]
    intro x hx
    have:x<v:=by simpa using hx
    rw[if_neg (by omega)]
   rw[this]
   simp
  ·rw[oG (d:=d) (by omega)]
   simp [Ne.symm e]
theorem eM {α β:Type} {f g:α→List β}:∀ {l:List α},(∀ x∈l,f x=g x)→l.flatMap f=l.flatMap g
 | [],_=>rfl
 | x :: l,h=>by rw[List.flatMap_cons,List.flatMap_cons,h x (by simp),eM (fun y hy=>h y (by simp [hy]))]
def bf (ds:List Int):Nat:=(ab ds).toNat
theorem fC {ds:List Int} (h:∀ d∈ds,1≤d):ab ds=bf ds∧1≤bf ds:=by
 have:=bi ds h
 unfold bf
 omega
theorem iU {d:Int} {ds:List Int} (h:∀ x∈d :: ds,1≤x):bf (d :: ds)=d.toNat*bf ds:=by
 have h1:=h d (by simp)
 have h2:=bi ds (fun x hx=>h x (by simp [hx]))
 unfold bf
 rw[bo]
 have e:d*ab ds=((d.toNat*(ab ds).toNat:Nat):Int):=by push_cast;rw[Int.toNat_of_nonneg (by omega),Int.toNat_of_nonneg (by omega)]
 rw[e];rfl
theorem lp:∀ (ds:List Int) (x y:Int),(∀ d∈ds,1≤d)→an ds (x*ab ds+y)=an ds y
 | [],_,_,_=>rfl
 | d :: ds,x,y,h=>by
  have hds:∀ d∈ds,1≤d:=fun z hz=>h z (by simp [hz])
  have hp:=bi ds hds
  rw[cl,cl,bo]
  have e:x*(d*ab ds)+y=(x*d)*ab ds+y:=by rw[Int.mul_assoc]
  rw[e,lp ds (x*d) y hds,Int.add_comm,Int.add_mul_ediv_right _ _ (by omega),Int.mul_comm x d,Int.add_mul_emod_self_left]
theorem oJ (ds:List Int) (n:Int) (h:∀ d∈ds,1≤d):an ds (n % ab ds)=an ds n:=by
 have:=lp ds (n / ab ds) (n % ab ds) h
 rw[← this,Int.mul_comm,Int.mul_ediv_add_emod]
theorem m8:∀ (ds:List Int) (n:Int),(∀ d∈ds,1≤d)→0≤n→n<ab ds→gP ds (an ds n)=n
 | [],n,_,h0,h1=>by simp [ab]at h1;simp [gP,wG];omega
 | d :: ds,n,h,h0,h1=>by
  have hds:∀ d∈ds,1≤d:=fun z hz=>h z (by simp [hz])
  have hp:=bi ds hds
  rw[bo]at h1
  rw[cl,gP, ← oJ ds n hds,m8 ds (n % ab ds) hds (Int.emod_nonneg _ (by omega)) (Int.emod_lt_of_pos _ (by omega))]
  have hq:n / ab ds<d:=Int.ediv_lt_of_lt_mul (by omega) h1
  have hq0:0≤n / ab ds:=Int.ediv_nonneg h0 (by omega)
  rw[Int.emod_eq_of_lt hq0 hq,Int.mul_comm,Int.mul_ediv_add_emod]
def dz:List Int→List Int
 | []=>[]
 | _ :: ds=>ab ds :: dz ds
theorem lL:∀ (ds is:List Int),is.length=ds.length→dotI (dz ds) is=gP ds is
 | [],[],_=>rfl
 | [],_ :: _,h=>by simp at h
 | _ :: _,[],h=>by simp at h
 | d :: ds,i :: is,h=>by rw[dz,dotI,gP,lL ds is (by simpa using h),Int.mul_comm]
theorem jB:∀ (ls ds:List Int),ls.length=ds.length→ls.Nodup→ls.map (aw ls ds)=dz ds
 | [],[],_,_=>rfl
 | [],_ :: _,h,_=>by simp at h
 | _ :: _,[],h,_=>by simp at h
 | l :: ls,d :: ds,h,hn=>by
  simp only[List.nodup_cons]at hn
  rw[List.map_cons,dz,aw,if_pos rfl, ← jB ls ds (by simpa using h) hn.2]
  congr 1
  refine List.map_congr_left fun x hx=> ?_
  rw[aw,if_neg fun (e:x=l)=>hn.1 (e ▸ hx)]
def offJ (v:Nat):List Int→Nat→Nat→Nat
 | [],_,_=>0
 | _ :: ds,0,i=>v*bf ds+i
 | _ :: ds,j+1,i=>(i / bf (ds.eraseIdx j))*bf ds+offJ v ds j (i % bf (ds.eraseIdx j))
theorem sn {ds:List Int} (h:∀ d∈ds,1≤d) (j:Nat):∀ d∈ds.eraseIdx j,1≤d:=fun d hd=>h d (List.mem_of_mem_eraseIdx hd)
theorem uQ (v:Nat):∀ (ds:List Int) (j i:Nat),(∀ d∈ds,1≤d)→j<ds.length→i<bf (ds.eraseIdx j)→
  (v:Int)*(dz ds).getD j 0+dotI ((dz ds).eraseIdx j) (an (ds.eraseIdx j) i)=offJ v ds j i
 | [],j,_,_,h,_=>by simp at h
 | d :: ds,0,i,h,_,hi=>by
  have hds:∀ d∈ds,1≤d:=fun z hz=>h z (by simp [hz])
  obtain⟨hp,_⟩:=fC hds
  simp only[dz,List.getD_cons_zero,List.eraseIdx_cons_zero,offJ]at hi ⊢
  rw[lL _ _ (bg _ _),m8 ds i hds (by omega) (by omega),hp]
  push_cast;rfl
 | d :: ds,j+1,i,h,hj,hi=>by
  have hds:∀ d∈ds,1≤d:=fun z hz=>h z (by simp [hz])
  have he:=sn hds j
  obtain⟨hp,_⟩:=fC hds
  obtain⟨hp',hp1⟩:=fC he
  have hd:=h d (by simp)
  have hall:∀ x∈d :: ds.eraseIdx j,1≤x:=by
   intro x hx
   simp only[List.mem_cons]at hx
   rcases hx with rfl | hx
   ·exact hd
   ·exact he x hx
  simp only[List.eraseIdx_cons_succ]at hi ⊢
  rw[iU hall]at hi
  simp only[dz,List.getD_cons_succ,List.eraseIdx_cons_succ,cl,dotI,offJ]
  have ih:=uQ v ds j (i % bf (ds.eraseIdx j)) hds (by simpa using hj) (Nat.mod_lt _ (by omega))
  have e1:an (ds.eraseIdx j) ((i % bf (ds.eraseIdx j):Nat):Int)=an (ds.eraseIdx j) i:=by
   rw[Int.natCast_emod, ← hp',oJ _ _ he]
  rw[e1]at ih
  have hq:i / bf (ds.eraseIdx j)<d.toNat:=Nat.div_lt_of_lt_mul (by rw[Nat.mul_comm];exact hi)
  have e2:(i:Int) / ab (ds.eraseIdx j) % d=(i / bf (ds.eraseIdx j):Nat):=by
   rw[hp', ← Int.natCast_ediv]
   generalize i / bf (ds.eraseIdx j)=q at*
   exact Int.emod_eq_of_lt (by omega) (by omega)
  rw[e2]
  generalize i / bf (ds.eraseIdx j)=q at*
  generalize i % bf (ds.eraseIdx j)=q2 at*
  push_cast
  rw[← ih,hp,Int.mul_comm (bf ds:Int)]
  omega
theorem ox (v:Nat):∀ (ds:List Int) (j:Nat),(∀ d∈ds,1≤d)→j<ds.length→(v:Int)<ds.getD j 0→
  (List.range (bf ds)).filter (fun n:Nat=>decide ((an ds n).getD j 0=v))=(List.range (bf (ds.eraseIdx j))).map (offJ v ds j)
 | [],_,_,h,_=>by simp at h
 | d :: ds,0,h,_,hv=>by
  have hds:∀ d∈ds,1≤d:=fun z hz=>h z (by simp [hz])
  obtain⟨hp,hp1⟩:=fC hds
  have hd:=h d (by simp)
  simp only[List.getD_cons_zero]at hv
  rw[iU h,ky,List.filter_flatMap]
  have key:∀ x∈List.range d.toNat,((List.range (bf ds)).map (x*bf ds+ ·)).filter (fun n:Nat=>decide ((an (d :: ds) n).getD 0 0=v))=if x=v then (List.range (bf ds)).map (v*bf ds+ ·) else []:=by
   intro x hx
   have hx':x<d.toNat:=by simpa using hx
   have hval:∀ y,y<bf ds→(an (d :: ds) ((x*bf ds+y:Nat):Int)).getD 0 0=x:=fun y hy=>by
    rw[cl,List.getD_cons_zero,hp, ← Int.natCast_ediv]
    have e:(x*bf ds+y) / bf ds=x:=by
     rw[Nat.mul_comm,Nat.mul_add_div (by omega),Nat.div_eq_of_lt hy];omega
    rw[e,Int.emod_eq_of_lt (by omega) (by omega)]
   split
   ·rename_i e
    subst e
    refine List.filter_eq_self.2 fun n hn=> ?_
    obtain⟨y,hy,rfl⟩:=List.mem_map.1 hn
    exact decide_eq_true (hval y (by simpa using hy))
   ·rename_i e
    refine List.filter_eq_nil_iff.2 fun n hn=> ?_
    obtain⟨y,hy,rfl⟩:=List.mem_map.1 hn
    rw[hval y (by simpa using hy)]
    simp;omega
  rw[eM key,oG (by omega)]
  simp only[List.eraseIdx_cons_zero]
  rfl
 | d :: ds,j+1,h,hj,hv=>by
  have hds:∀ d∈ds,1≤d:=fun z hz=>h z (by simp [hz])
  have he:=sn hds j
  obtain⟨hp,hp1⟩:=fC hds
  obtain⟨hp',hp1'⟩:=fC he
  have hd:=h d (by simp)
  have hall:∀ x∈d :: ds.eraseIdx j,1≤x:=by
   intro x hx
   simp only[List.mem_cons]at hx
   rcases hx with rfl | hx
   ·exact hd
   ·exact he x hx
  simp only[List.getD_cons_succ]at hv
  have ih:=ox v ds j hds (by simpa using hj) hv
  rw[iU h,ky,List.filter_flatMap,List.eraseIdx_cons_succ,iU hall,ky,List.map_flatMap]
  refine eM fun x hx=> ?_
  rw[List.filter_map,List.map_map]
  have e1:(fun n:Nat=>decide ((an (d :: ds) n).getD (j+1) 0=(v:Int))) ∘ (x*bf ds+ ·)=fun n:Nat=>decide ((an ds n).getD j 0=(v:Int)):=by
   funext y
   simp only[Function.comp,cl,List.getD_cons_succ]
   congr 3
   push_cast
   rw[← hp,lp ds x y hds]
  rw[e1,ih,List.map_map]
  refine List.map_congr_left fun i hi=> ?_
  have hi':i<bf (ds.eraseIdx j):=by simpa using hi
  simp only[Function.comp,offJ]
  have e2:(x*bf (ds.eraseIdx j)+i) / bf (ds.eraseIdx j)=x:=by
   rw[Nat.mul_comm,Nat.mul_add_div (by omega),Nat.div_eq_of_lt hi'];omega
  have e3:(x*bf (ds.eraseIdx j)+i) % bf (ds.eraseIdx j)=i:=by
   rw[Nat.mul_comm,Nat.mul_add_mod,Nat.mod_eq_of_lt hi']
  rw[e2,e3]
end Go.Proofs.YtneocijmbnhblaaGreat
