/-
 Contracts: slices of tensors. No condition.
-/
import Derived.Test.YtneocijmbnhblaaGreatCoD
import Derived.Test.YtneocijmbnhblaaGreatLift28
set_option linter.unusedSimpArgs false
set_option linter.unusedVariables false
namespace Go.Proofs.YtneocijmbnhblaaGreat
open Go.RowKit Go.Lift Plain
set_option maxRecDepth 100000
def wo (ls:List Int) (x:Int):List Int:=ls.filter (· !=x)
theorem u5:∀ {ls:List Int} {j:Nat} (hj:j<ls.length),ls.Nodup→wo ls ls[j]=ls.eraseIdx j
 | [],j,h,_=>by simp at h
 | l :: ls,0,_,hn=>by
  simp only[List.nodup_cons]at hn
  simp only[wo,List.getElem_cons_zero,List.filter_cons,bne_self_eq_false,Bool.false_eq_true,if_false,List.eraseIdx_cons_zero]
  refine List.filter_eq_self.2 fun y hy=> ?_
  simp only[bne_iff_ne,ne_eq]
  exact fun e=>hn.1 (e ▸ hy)
 | l :: ls,j+1,hj,hn=>by
  simp only[List.nodup_cons]at hn
  have hj':j<ls.length:=by simpa using hj
  have ih:=u5 hj' hn.2
  have hne:l≠ls[j]:=fun e=>hn.1 (e ▸ List.getElem_mem hj')
  simp only[wo,List.getElem_cons_succ,List.filter_cons,List.eraseIdx_cons_succ]
  rw[if_pos (by simpa using hne), ← ih];rfl
theorem jc {α β:Type} (f:α→β):∀ (l:List α) (j:Nat),(l.map f).eraseIdx j=(l.eraseIdx j).map f
 | [],_=>by simp
 | x :: l,0=>rfl
 | x :: l,j+1=>by simp [jc f l j]
structure SliOk (t:Ten) (x:Int) (v wd n j:Nat):Prop where
 ax:axOk t.labels t.dims
 pn:ab t.dims=n
 n1:1≤n∧n≤4096
 w1:1≤wd∧wd≤6
 dl:t.data.length=n*wd
 jl:j<t.labels.length
 jx:t.labels[j]? =some x
 vd:(v:Int)<t.dims.getD j 0
def sliD (t:Ten) (j:Nat):List Int:=t.dims.eraseIdx j
def sliN (t:Ten) (j:Nat):Nat:=bf (sliD t j)
def sliR (wd:Nat) (t:Ten) (x:Int) (v j:Nat):Ten:=⟨wo t.labels x,sliD t j,gath t.data wd (offJ v t.dims j) (sliN t j)⟩
namespace SliOk
variable {t : Ten} {x : Int} {v wd n j : Nat}
theorem lx (h:SliOk t x v wd n j):t.labels[j]'h.jl=x:=by have:=h.jx;rw[List.getElem?_eq_getElem h.jl]at this;simpa using this
theorem nodup (h:SliOk t x v wd n j):t.labels.Nodup:=bG h.ax
theorem W (h:SliOk t x v wd n j):wo t.labels x=t.labels.eraseIdx j:=by have:=u5 h.jl h.nodup;rwa [h.lx]at this
theorem place (h:SliOk t x v wd n j):Plain.place t.labels x=j:=by have:=dD h.jl (ec h.nodup h.jl);rwa [h.lx]at this
theorem jd (h:SliOk t x v wd n j):j<t.dims.length:=by have:=h.jl;have:=h.ax.len;omega
theorem len (h:SliOk t x v wd n j):(wo t.labels x).length=t.labels.length-1:=by rw[h.W,List.length_eraseIdx_of_lt h.jl]
theorem dlen (h:SliOk t x v wd n j):(sliD t j).length=(wo t.labels x).length:=by
 rw[h.len,sliD,List.length_eraseIdx_of_lt h.jd,h.ax.len]
theorem dims (h:SliOk t x v wd n j):(wo t.labels x).map (aE t)=sliD t j:=by
 rw[h.W, ← jc,kc h.ax];rfl
theorem strides (h:SliOk t x v wd n j):(wo t.labels x).map (aw t.labels t.dims)=(dz t.dims).eraseIdx j:=by
 rw[h.W, ← jc,jB _ _ h.ax.len h.nodup]
theorem stride (h:SliOk t x v wd n j):aw t.labels t.dims x=(dz t.dims).getD j 0:=by
 rw[← jB _ _ h.ax.len h.nodup,ao (by simpa using h.jl),List.getElem_map,h.lx]
theorem d1 (h:SliOk t x v wd n j):∀ d∈t.dims,1≤d:=fun d hd=>(h.ax.dim d hd).1
theorem dbd (h:SliOk t x v wd n j):∀ d∈sliD t j,1≤d∧d≤8:=fun d hd=>h.ax.dim d (List.mem_of_mem_eraseIdx hd)
theorem pN (h:SliOk t x v wd n j):ab (sliD t j)=sliN t j∧1≤sliN t j:=fC (fun d hd=>(h.dbd d hd).1)
theorem off (h:SliOk t x v wd n j) {i:Nat} (hi:i<sliN t j):(v:Int)*aw t.labels t.dims x+dotI ((wo t.labels x).map (aw t.labels t.dims)) (an (sliD t j) i)=offJ v t.dims j i:=by
 rw[h.stride,h.strides]
 exact uQ v t.dims j i h.d1 h.jd hi
theorem offn (h:SliOk t x v wd n j) {i:Nat} (hi:i<sliN t j):offJ v t.dims j i<n:=by
 have h1:=ox v t.dims j h.d1 h.jd h.vd
 have h2:offJ v t.dims j i∈(List.range (bf (t.dims.eraseIdx j))).map (offJ v t.dims j):=List.mem_map.2 ⟨i,List.mem_range.2 hi,rfl⟩
 rw[← h1,List.mem_filter]at h2
 have h3:=(fC h.d1).1
 have h4:offJ v t.dims j i<bf t.dims:=by simpa using h2.1
 have:=h.pn
 omega
theorem cut (h:SliOk t x v wd n j) {i:Nat} (hi:i<sliN t j):offJ v t.dims j i*wd+wd≤t.data.length:=by
 rw[h.dl];exact dX (h.offn hi)
theorem sbd (h:SliOk t x v wd n j) (y:Int):0≤aw t.labels t.dims y∧aw t.labels t.dims y≤4096:=by
 have h1:=iQ t.labels t.dims y h.d1
 have:=h.pn
 have:=h.n1
 omega
theorem dotb (h:SliOk t x v wd n j) (i k:Nat):0≤((wo t.labels x).map (aw t.labels t.dims)).getD k 0*(an (sliD t j) i).getD k 0∧((wo t.labels x).map (aw t.labels t.dims)).getD k 0*(an (sliD t j) i).getD k 0≤16777216:=by
 by_cases hk:k<(wo t.labels x).length
 ·have hk2:k<(sliD t j).length:=by rw[h.dlen];exact hk
  have h1:=fq (sliD t j) i (fun d hd=>(h.dbd d hd).1) k hk2
  have h2:=h.dbd ((sliD t j).getD k 0) (by rw[ao hk2];exact List.getElem_mem _)
  have h3:=h.sbd (wo t.labels x)[k]
  rw[ao (show k<((wo t.labels x).map (aw t.labels t.dims)).length by simpa using hk),List.getElem_map]
  generalize (an (sliD t j) i).getD k 0=y at*
  generalize aw t.labels t.dims (wo t.labels x)[k]=s at*
  refine⟨Int.mul_nonneg h3.1 h1.1, ?_⟩
  have:s*y≤s*8:=Int.mul_le_mul_of_nonneg_left (by omega) h3.1
  omega
 ·have:((wo t.labels x).map (aw t.labels t.dims)).getD k 0=0:=by simp [List.getD_eq_getElem?_getD,List.getElem?_eq_none (Nat.le_of_not_lt hk)]
  rw[this];simp
end SliOk
def sliB (r:Rg) (t:Ten) (x v:Int):Bool:=aA r t.labels t.dims t.data&&decide (x∈t.labels∧0≤v∧v<aE t x)
def sliT (r:Rg) (t:Ten) (x v:Int):Ten:=if sliB r t x v=true then sliR (ar r).toNat t x v.toNat (place t.labels x).toNat else ⟨[],[],[]⟩
end Go.Proofs.YtneocijmbnhblaaGreat
