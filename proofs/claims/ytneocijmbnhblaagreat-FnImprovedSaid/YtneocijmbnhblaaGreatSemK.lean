/-
 Networks over the labels 0 to 5: a tensor replaced, its environment, and sums of tensors. No condition.
-/
import Derived.Test.YtneocijmbnhblaaGreatSemH
import Derived.Test.YtneocijmbnhblaaGreatGenG
set_option linter.unusedSimpArgs false
set_option linter.unusedVariables false
namespace Go.Proofs.YtneocijmbnhblaaGreat.Sem
open Plain
section
variable {E : Type} (S : SR E) {dim dim' : Int → Nat}
theorem qm:∀ {L:List Int},(∀ x∈L,dim x=dim' x)→pN dim L=pN dim' L
 | [],_=>rfl
 | x :: L,h=>by rw[pN,pN,h x List.mem_cons_self,qm fun y hy=>h y (List.mem_cons_of_mem _ hy)]
theorem vS:∀ {L:List Int} {a:Asg},(∀ x∈L,dim x=dim' x)→offR dim L a=offR dim' L a
 | [],_,_=>rfl
 | x :: L,a,h=>by rw[offR,offR,qm fun y hy=>h y (List.mem_cons_of_mem _ hy),vS fun y hy=>h y (List.mem_cons_of_mem _ hy)]
theorem vk {f:Asg→E}:∀ {L:List Int} {a:Asg},(∀ x∈L,dim x=dim' x)→sumL S dim L f a=sumL S dim' L f a
 | [],_,_=>rfl
 | x :: L,a,h=>by
  rw[sumL,sumL,h x List.mem_cons_self]
  exact cP S fun v _=>vk fun y hy=>h y (List.mem_cons_of_mem _ hy)
end
def d6:Int→Nat:=fun x=>(dimL x).toNat
theorem EU (x:Int):(d6 x:Int)=dimL x:=by have:=jn (x:=x);unfold d6;omega
section
variable {r : Rg} {wd : Nat} (hr : af r = true) (hw : ah r = wd) {dim dim' : Int → Nat}
theorem yM {t:Ten} (h:∀ x∈t.labels,dim x=dim' x):elT hr hw dim t=elT hr hw dim' t:=by
 funext a
 unfold elT
 rw[vS h]
theorem TV.reDim {t:Ten} (h:TV r wd dim t) (e:∀ x∈t.labels,dim x=dim' x):TV r wd dim' t:=
 ⟨h.nd,h.dm.trans (List.map_congr_left fun x hx=>by rw[e x hx]),fun x hx=>by rw[← e x hx];exact h.dp x hx,by rw[h.len,qm e],h.fit⟩
end
section
variable {N : Net} {wd : Nat}
theorem wL (h:Gen6 N) {x:Int} (hx:x∈ar N):dimF N x=d6 x:=by
 have h1:=(eJ h.ok).1 hx
 have h2:=jo h.ok x
 have h3:=EU x
 rcases xM h.six x with e | e<;>omega
theorem sY (h:bC N=true) {x:Int}:x∈ar N↔∃ t∈N.ts,x∈t.labels:=
 ⟨fun hx=>jY ((eJ h).1 hx),fun⟨t,ht,hx⟩=>gg h ht hx⟩
theorem nv6 (h:Gen6 N) (hr:af N.rg=true) (hw:ah N.rg=wd):TV N.rg wd d6 (nvR N wd)∧
  ∀ a:Asg,(∀ x∈N.os,a x<d6 x)→elT hr hw d6 (nvR N wd) a=valL (aM hr hw) d6 (N.ts.map (elT hr hw d6)) (eZ N) a:=by
 obtain⟨h1,h2⟩:=BN h.ok hw
 have ho:∀ x∈N.os,dimF N x=d6 x:=fun x hx=>wL h (qn h.ok x hx)
 refine⟨h1.reDim ho,fun a ha=> ?_⟩
 rw[← yM hr hw (dim:=dimF N) ho,h2 a fun x hx=>by rw[ho x hx];exact ha x hx]
 have e1:N.ts.map (elT hr hw (dimF N))=N.ts.map (elT hr hw d6):=List.map_congr_left fun t ht=>yM hr hw fun x hx=>wL h (gg h.ok ht hx)
 unfold valL
 rw[e1]
 exact vk _ fun x hx=>wL h (List.mem_filter.1 hx).1
end
end Go.Proofs.YtneocijmbnhblaaGreat.Sem
namespace Go.Proofs.YtneocijmbnhblaaGreat.Sem
open Plain
section
variable {N : Net} {wd : Nat}
end
end Go.Proofs.YtneocijmbnhblaaGreat.Sem
namespace Go.Proofs.YtneocijmbnhblaaGreat.Sem
open Plain
section
variable {r : Rg} {wd : Nat}
def L6 (L:List Int):Prop:=∀ x∈L,0≤x∧x<6
theorem CI (L:List Int):bP d6 L=bH L:=List.map_congr_left fun x _=>EU x
theorem Hg {L:List Int} (hn:L.Nodup) (h:L6 L):axOk L (bP d6 L):=by
 have hl:=len6 hn h
 refine pT (by omega) (by simp [bP]) hn (fun l hl=>by have:=h l hl;omega) fun d hd=> ?_
 rw[CI]at hd
 obtain⟨y,_,rfl⟩:=List.mem_map.1 hd
 have:=jn (x:=y)
 omega
theorem nj {L:List Int} (hn:L.Nodup) (h:L6 L):1≤aa (bP d6 L)∧aa (bP d6 L)≤729:=by
 rw[CI]
 exact⟨(iC L).1,yi (len6 hn h)⟩
theorem AK {L:List Int} (hn:L.Nodup) (h:L6 L):aX L (bP d6 L)=aa (bP d6 L):=by
 have h1:=Hg hn h
 have h2:=nj hn h
 unfold aX
 rw[if_pos ⟨h1,by omega⟩]
theorem xW {t:Ten} (hr:af r=true) (hw:ah r=wd) (h:TV r wd d6 t) (h6:L6 t.labels):aD r t.labels t.dims t.data=true:=by
 have h1:=AK h.nd h6
 have h2:=nj h.nd h6
 simp only[aD,hr,Bool.true_and,Bool.and_eq_true,decide_eq_true_eq,jC]
 refine⟨⟨by rw[h.dm,h1];omega, ?_⟩,h.fit⟩
 rw[h.dm,h1,h.len,fJ,hw]
 push_cast
 rfl
theorem sv {t:Ten} (hr:af r=true) (hw:ah r=wd) (h:TV r wd d6 t) (h6:L6 t.labels):TSz 1048576 t:=by
 have hl:=len6 h.nd h6
 have hp:=nj h.nd h6
 have hwd:=wd6 hr hw
 have htp:=dY hr
 rw[fJ]at hp
 have hlen:t.data.length≤729*6:=by
  rw[h.len]
  exact Nat.mul_le_mul (by omega) hwd.2
 refine⟨⟨by omega,fun x hx=> ?_⟩,⟨?_,fun x hx=> ?_⟩,⟨by omega,fun x hx=> ?_⟩⟩
 ·have:=h6 x hx;unfold I64;omega
 ·rw[h.dm];simp [bP];omega
 ·rw[h.dm,CI]at hx
  obtain⟨y,_,rfl⟩:=List.mem_map.1 hx
  have:=jn (x:=y)
  unfold I64;omega
 ·have:=gO h.fit x hx
  unfold I64;omega
theorem EV {A B:Ten} (hr:af r=true) (hw:ah r=wd) (hA:TV r wd d6 A) (hB:TV r wd d6 B) (a6:L6 A.labels) (b6:L6 B.labels) (keep:List Int):conB r A B keep=true∧conT r A B keep=conR r wd A B keep∧L6 (conK A B keep):=by
 have hn:=pP hA hB
 have h6:L6 (conL A B):=fun x hx=>(bb.1 hx).elim (a6 x) (b6 x)
 have hk6:L6 (conK A B keep):=fun x hx=>h6 x (List.mem_filter.1 hx).1
 have hkn:(conK A B keep).Nodup:=hn.filter _
 have h1:=nj hn h6
 have h2:=AK hkn hk6
 have h3:=nj hkn hk6
 have hj:fV A B=true:=by
  unfold fV
  rw[List.all_eq_true]
  intro x hx
  rw[Bool.not_eq_true',Bool.and_eq_false_iff]
  by_cases ha:x∈A.labels
  ·by_cases hb:x∈B.labels
   ·right
    rw[hA.dimEq ha,hB.dimEq hb]
    simp
   ·left
    rw[Bool.and_eq_false_iff]
    exact .inr (bT.2 hb)
  ·left
   rw[Bool.and_eq_false_iff]
   exact .inl (bT.2 ha)
 have hc:conB r A B keep=true:=by
  simp only[conB,xW hr hw hA a6,xW hr hw hB b6,hj,Bool.true_and,Bool.and_eq_true,decide_eq_true_eq]
  rw[lH hA hB,tQ hA hB keep,h2]
  omega
 refine⟨hc, ?_,hk6⟩
 unfold conT
 rw[hc,hw]
 rfl
end
section
variable {N : Net} {wd n : Nat} {F : List Int}
theorem C4 (h:Gen6 N):L6 (ar N):=fun x hx=>by
 obtain⟨t,ht,hxt⟩:=(sY h.ok).1 hx
 exact(h.six t ht).bd x hxt
theorem tA6 (h:Gen6 N) (hok:am N n F=true) (hw:ah N.rg=wd) {k i:Nat} (hk:k≤n) (hi:i<N.ts.length+k):TV N.rg wd d6 (tA N wd F k i)∧L6 (tA N wd F k i).labels∧(tA N wd F k i).labels=(ordS N F k).lab i:=by
 have hI:=invT hok hw k hk
 have e:=hI.lab i hi
 have hs:∀ x∈(tA N wd F k i).labels,x∈ar N:=fun x hx=>by rw[e]at hx;exact hI.sub i hi x hx
 exact⟨(hI.tv i hi).reDim fun x hx=>wL h (hs x hx),fun x hx=>C4 h x (hs x hx),e⟩
end
end Go.Proofs.YtneocijmbnhblaaGreat.Sem
namespace Go.Proofs.YtneocijmbnhblaaGreat.Sem
open Plain
section
variable {r : Rg} {wd : Nat}
theorem Ba {A B:List Int} (hA:A.Nodup) (hB:B.Nodup) (h:∀ x,x∈A↔x∈B):l6 A B=true:=by
 have hp:A.Perm B:=(List.perm_ext_iff_of_nodup hA hB).2 h
 exact decide_eq_true ⟨hp.length_eq.symm,fun k hk=>⟨(h _).2 (List.getElem_mem hk),eW hB hk⟩⟩
end
section
variable {N : Net} {wd : Nat}
end
end Go.Proofs.YtneocijmbnhblaaGreat.Sem
