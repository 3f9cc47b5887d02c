/-
 Contracts: labels fixed. No condition.
-/
import Derived.Test.YtneocijmbnhblaaGreatMgImprovedA
import Derived.Test.YtneocijmbnhblaaGreatConM
import Derived.Test.YtneocijmbnhblaaGreatLiftH
import Derived.Test.YtneocijmbnhblaaGreatCoD
set_option linter.unusedSimpArgs false
set_option linter.unusedVariables false
namespace Go.Proofs.YtneocijmbnhblaaGreat
open Go.RowKit Go.Lift Plain
set_option maxRecDepth 100000
theorem pT {ls ds:List Int} (h1:ls.length≤12) (h2:ls.length=ds.length) (h3:ls.Nodup) (h4:∀ l∈ls,0≤l∧l≤99) (h5:∀ d∈ds,1≤d∧d≤8):axOk ls ds:=by
 refine⟨h1,h2,fun k hk=> ?_⟩
 have a:=h4 _ (fk ls k hk)
 have b:=h5 _ (fk ds k (by omega))
 have c:=eW h3 hk
 rw[← ab hk]at c
 exact⟨a.1,a.2,b.1,b.2,c⟩
def wD (r:Rg) (t:Ten) (L V:List Int):Nat→Ten
 | 0=>t
 | k+1=>if L.getD k 0∈(wD r t L V k).labels then sliT r (wD r t L V k) (L.getD k 0) (V.getD k 0) else wD r t L V k
def Ek (r:Rg) (t:Ten) (L V:List Int) (n:Nat):Prop:=∀ j,j<n→L.getD j 0∈(wD r t L V j).labels→sliB r (wD r t L V j) (L.getD j 0) (V.getD j 0)=true
instance (r:Rg) (t:Ten) (L V:List Int) (n:Nat):Decidable (Ek r t L V n):=inferInstanceAs (Decidable (∀ j,j<n→_))
structure FixSt (r:Rg) (t:Ten) (L:List Int) (k:Nat) (s:Ten):Prop where
 ok:aD r s.labels s.dims s.data=true
 sz:TSz 1048576 s
 lab:∀ l,l∈s.labels↔l∈t.labels∧l∉L.take k
 dim:∀ l∈s.labels,au s l=au t l
end Go.Proofs.YtneocijmbnhblaaGreat
