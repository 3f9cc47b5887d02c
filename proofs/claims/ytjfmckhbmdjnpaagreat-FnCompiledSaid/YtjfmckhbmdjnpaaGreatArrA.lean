/-
 Arrays of ints as lists. No condition.
-/
import Derived.Test.YtjfmckhbmdjnpaaGreatPlN
set_option linter.unusedSimpArgs false
set_option linter.unusedVariables false
namespace Go.Proofs.YtjfmckhbmdjnpaaGreat
open Go.RowKit Go.Lift Plain
section
variable {xs : List Int}
theorem H5 (k:Nat):∀ (xs:List Int) (j:Nat),cvL k j (iv xs)=iv xs
 | [],_=>rfl
 | x :: l,j=>by
  have:=H5 k l (j+1)
  simp only[iv,List.map_cons,cvL,cv]at this ⊢
  rw[this]
theorem Dc (s:St):∀ (xs:List Int),expC s (iv xs)=some (iv xs)
 | []=>rfl
 | x :: l=>by
  have:=Dc s l
  simp only[iv,List.map_cons,expC,exp1]at this ⊢
  rw[this]
theorem xJ:∀ (xs:List Int),dD (iv xs)=true
 | []=>rfl
 | x :: l=>by
  have:=xJ l
  simp only[iv,List.map_cons,dD,n9]at this ⊢
  rw[this];rfl
theorem v6:∀ (xs:List Int),idsL (iv xs)=[]
 | []=>rfl
 | x :: l=>by
  have:=v6 l
  simp only[iv,List.map_cons,idsL,idsA]at this ⊢
  rw[this];rfl
theorem L9 (gv:List Nat) (M:List Nat):cgL gv M (iv xs)=iv xs:=by
 rw[r6,iv,List.map_map]
 exact List.map_congr_left fun x _=>rfl
theorem zT {D:List Int} {x:Int} (hl:D.length=100) (hx:0≤x∧x≤99):D[x.toNat]? =some (atT D x):=by
 unfold atT
 rw[ae (by omega)]
 exact zg (by omega)
theorem L1:dv []=[]:=nr rfl
end
attribute [go_sem] L1 H5 Dc xJ v6 L9 FF lG
end Go.Proofs.YtjfmckhbmdjnpaaGreat
