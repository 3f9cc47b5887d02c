/-
 Arrays of ints as lists. No condition.
-/
import Derived.Test.YtobhmajhachnaaaGreatDoorPlN
set_option linter.unusedSimpArgs false
set_option linter.unusedVariables false
namespace Go.Proofs.YtobhmajhachnaaaGreatDoor
open Go.RowKit Go.Lift Plain
section
variable {xs : List Int}
theorem IN(k:Nat):∀(xs:List Int) (j:Nat),cvL k j (iv xs)=iv xs
 | [],_=>rfl
 |x :: l,j=>by
  have:=IN k l (j+1);simp only[iv,List.map_cons,cvL,cv]at this ⊢;rw[this]
theorem EH(s:St):∀(xs:List Int),expC s (iv xs)=some (iv xs)
 | []=>rfl
 |x :: l=>by
  have:=EH s l;simp only[iv,List.map_cons,expC,exp1]at this ⊢;rw[this]
theorem yV:∀(xs:List Int),dK (iv xs)=true
 | []=>rfl
 |x :: l=>by
  have:=yV l;simp only[iv,List.map_cons,dK,plain]at this ⊢;rw[this];rfl
theorem w6:∀(xs:List Int),idsL (iv xs)=[]
 | []=>rfl
 |x :: l=>by
  have:=w6 l;simp only[iv,List.map_cons,idsL,idsA]at this ⊢;rw[this];rfl
theorem MO(gv:List Nat)(M:List Nat):cgL gv M (iv xs)=iv xs:=by
 rw[p6,iv,List.map_map];exact List.map_congr_left fun x _=>rfl
theorem tJ{D:List Int}{x:Int}(hl:D.length=100)(hx:0≤x∧x≤99):D[x.toNat]? =some (atT D x):=by
 unfold atT;rw[ac (by omega)];exact zg (by omega)
theorem MI:dv []=[]:=nr rfl
end
attribute [go_sem] MI IN EH yV w6 MO He dG
section
variable {xs ys : List Bool}
end
def bits(n:Nat)(f:Nat→Bool):List Bool:=(List.range n).map f
end Go.Proofs.YtobhmajhachnaaaGreatDoor
