/-
 Arrays of ints as lists. No condition.
-/
import Derived.Test.YtjfmckhbmdjnpaaGreatPlN
set_option linter.unusedSimpArgs false
set_option linter.unusedVariables false
namespace Go.Proofs.YtjfmckhbmdjnpaaGreat
open Go.RowKit Go.Lift Plain
section
variable {xs : List Int}
theorem Fk (k:Nat):∀ (xs:List Int) (j:Nat),cvL k j (iv xs)=iv xs
 | [],_=>rfl
 | x :: l,j=>by
  have:=Fk k l (j+1)
  simp only[iv,List.map_cons,cvL,cv]at this ⊢
  rw[this]
theorem Bw (s:St):∀ (xs:List Int),expC s (iv xs)=some (iv xs)
 | []=>rfl
 | x :: l=>by
  have:=Bw s l
  simp only[iv,List.map_cons,expC,exp1]at this ⊢
  rw[this]
theorem w6:∀ (xs:List Int),df (iv xs)=true
 | []=>rfl
 | x :: l=>by
  have:=w6 l
  simp only[iv,List.map_cons,df,plain]at this ⊢
  rw[this];rfl
theorem tl:∀ (xs:List Int),idsL (iv xs)=[]
 | []=>rfl
 | x :: l=>by
  have:=tl l
  simp only[iv,List.map_cons,idsL,idsA]at this ⊢
  rw[this];rfl
theorem Jp (gv:List Nat) (M:List Nat):cgL gv M (iv xs)=iv xs:=by
 rw[pH,iv,List.map_map]
 exact List.map_congr_left fun x _=>rfl
theorem tz {D:List Int} {x:Int} (hl:D.length=100) (hx:0≤x∧x≤99):D[x.toNat]? =some (atT D x):=by
 unfold atT
 rw[ab (by omega)]
 exact zg (by omega)
theorem AC:dv []=[]:=nr rfl
end
attribute [go_sem] AC Fk Bw w6 tl Jp E8 kx
section
variable {xs ys : List Bool}
end
def bits (n:Nat) (f:Nat→Bool):List Bool:=(List.range n).map f
end Go.Proofs.YtjfmckhbmdjnpaaGreat
