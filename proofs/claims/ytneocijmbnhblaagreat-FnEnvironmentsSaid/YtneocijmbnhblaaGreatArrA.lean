/-
 Arrays of ints as lists. No condition.
-/
import Derived.Test.YtneocijmbnhblaaGreatPlN
set_option linter.unusedSimpArgs false
set_option linter.unusedVariables false
namespace Go.Proofs.YtneocijmbnhblaaGreat
open Go.RowKit Go.Lift Plain
section
variable {xs : List Int}
theorem B7 (k:Nat):∀ (xs:List Int) (j:Nat),cvL k j (iv xs)=iv xs
 | [],_=>rfl
 | x :: l,j=>by
  have:=B7 k l (j+1)
  simp only[iv,List.map_cons,cvL,cv]at this ⊢
  rw[this]
theorem xw (s:St):∀ (xs:List Int),expC s (iv xs)=some (iv xs)
 | []=>rfl
 | x :: l=>by
  have:=xw s l
  simp only[iv,List.map_cons,expC,exp1]at this ⊢
  rw[this]
theorem rS:∀ (xs:List Int),er (iv xs)=true
 | []=>rfl
 | x :: l=>by
  have:=rS l
  simp only[iv,List.map_cons,er,jp]at this ⊢
  rw[this];rfl
theorem pv:∀ (xs:List Int),idsL (iv xs)=[]
 | []=>rfl
 | x :: l=>by
  have:=pv l
  simp only[iv,List.map_cons,idsL,idsA]at this ⊢
  rw[this];rfl
theorem EC (gv:List Nat) (M:List Nat):cgL gv M (iv xs)=iv xs:=by
 rw[ki,iv,List.map_map]
 exact List.map_congr_left fun x _=>rfl
theorem tW {D:List Int} {x:Int} (hl:D.length=100) (hx:0≤x∧x≤99):D[x.toNat]? =some (atT D x):=by
 unfold atT
 rw[ao (by omega)]
 exact List.getElem?_eq_getElem (by omega)
theorem Ev:dv []=[]:=nr rfl
end
attribute [go_sem] Ev B7 xw rS pv EC zJ ij
section
variable {xs ys : List Bool}
end
def bits (n:Nat) (f:Nat→Bool):List Bool:=(List.range n).map f
end Go.Proofs.YtneocijmbnhblaaGreat
