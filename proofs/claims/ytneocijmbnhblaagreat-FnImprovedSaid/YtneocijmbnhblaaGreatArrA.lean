/-
 Arrays of ints as lists. No condition.
-/
import Derived.Test.YtneocijmbnhblaaGreatPlN
set_option linter.unusedSimpArgs false
set_option linter.unusedVariables false
namespace Go.Proofs.YtneocijmbnhblaaGreat
open Go.RowKit Go.Lift Plain
section
variable {xs : List Int}
theorem CK (k:Nat):∀ (xs:List Int) (j:Nat),cvL k j (iv xs)=iv xs
 | [],_=>rfl
 | x :: l,j=>by
  have:=CK k l (j+1)
  simp only[iv,List.map_cons,cvL,cv]at this ⊢
  rw[this]
theorem yL (s:St):∀ (xs:List Int),expC s (iv xs)=some (iv xs)
 | []=>rfl
 | x :: l=>by
  have:=yL s l
  simp only[iv,List.map_cons,expC,exp1]at this ⊢
  rw[this]
theorem sP:∀ (xs:List Int),dJ (iv xs)=true
 | []=>rfl
 | x :: l=>by
  have:=sP l
  simp only[iv,List.map_cons,dJ,jv]at this ⊢
  rw[this];rfl
theorem pI:∀ (xs:List Int),idsL (iv xs)=[]
 | []=>rfl
 | x :: l=>by
  have:=pI l
  simp only[iv,List.map_cons,idsL,idsA]at this ⊢
  rw[this];rfl
theorem Gi (gv:List Nat) (M:List Nat):cgL gv M (iv xs)=iv xs:=by
 rw[kz,iv,List.map_map]
 exact List.map_congr_left fun x _=>rfl
theorem uY {D:List Int} {x:Int} (hl:D.length=100) (hx:0≤x∧x≤99):D[x.toNat]? =some (atT D x):=by
 unfold atT
 rw[ab (by omega)]
 exact zg (by omega)
theorem Gc:dv []=[]:=nr rfl
end
attribute [go_sem] Gc CK yL sP pI Gi Bp iz
section
variable {xs ys : List Bool}
end
def bits (n:Nat) (f:Nat→Bool):List Bool:=(List.range n).map f
end Go.Proofs.YtneocijmbnhblaaGreat
