/-
 Contracts: labels fixed. No condition.
-/
import Derived.Test.YtjfmckhbmdjnpaaGreatMgCompiledA
import Derived.Test.YtjfmckhbmdjnpaaGreatConM
import Derived.Test.YtjfmckhbmdjnpaaGreatLiftH
import Derived.Test.YtjfmckhbmdjnpaaGreatCoD
set_option linter.unusedSimpArgs false
set_option linter.unusedVariables false
namespace Go.Proofs.YtjfmckhbmdjnpaaGreat
open Go.RowKit Go.Lift Plain
set_option maxRecDepth 100000
theorem vc {ls ds:List Int} (h1:ls.length≤12) (h2:ls.length=ds.length) (h3:ls.Nodup) (h4:∀ l∈ls,0≤l∧l≤99) (h5:∀ d∈ds,1≤d∧d≤8):axOk ls ds:=by
 refine⟨h1,h2,fun k hk=> ?_⟩
 have a:=h4 _ (fQ ls k hk)
 have b:=h5 _ (fQ ds k (by omega))
 have c:=jk h3 hk
 rw[← ae hk]at c
 exact⟨a.1,a.2,b.1,b.2,c⟩
def Bd (r:Rg) (t:Ten) (L V:List Int):Nat→Ten
 | 0=>t
 | k+1=>if L.getD k 0∈(Bd r t L V k).labels then sliT r (Bd r t L V k) (L.getD k 0) (V.getD k 0) else Bd r t L V k
def IZ (r:Rg) (t:Ten) (L V:List Int) (n:Nat):Prop:=∀ j,j<n→L.getD j 0∈(Bd r t L V j).labels→sliB r (Bd r t L V j) (L.getD j 0) (V.getD j 0)=true
instance (r:Rg) (t:Ten) (L V:List Int) (n:Nat):Decidable (IZ r t L V n):=inferInstanceAs (Decidable (∀ j,j<n→_))
structure FixSt (r:Rg) (t:Ten) (L:List Int) (k:Nat) (s:Ten):Prop where
 ok:aE r s.labels s.dims s.data=true
 sz:TSz 1048576 s
 lab:∀ l,l∈s.labels↔l∈t.labels∧l∉L.take k
 dim:∀ l∈s.labels,ar s l=ar t l
end Go.Proofs.YtjfmckhbmdjnpaaGreat
