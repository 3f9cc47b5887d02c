/-
 Contracts: the state of an order, by the reference. No condition.
-/
import Derived.Test.YtjfmckhbmdjnpaaGreatMgDecompositionsA
import Derived.Test.YtjfmckhbmdjnpaaGreatOrdL
import Derived.Test.YtjfmckhbmdjnpaaGreatArrA
import Derived.Test.YtjfmckhbmdjnpaaGreatConM
set_option linter.unusedSimpArgs false
set_option linter.unusedVariables false
namespace Go.Proofs.YtjfmckhbmdjnpaaGreat
open Go.RowKit Go.Lift Plain
set_option maxRecDepth 100000
section
variable {T : List Int} {L : List (List Int)} {k : Nat}
end
section
variable {s : Osd} {os : List Int} {a b q m : Nat}
end
theorem lM {N:Net} (h:bn N=true) {t:Ten} (ht:t∈N.ts) {x:Int} (hx:x∈t.labels):ar t x=dimN N.ts x:=by
 obtain⟨k,hk,rfl⟩:=List.mem_iff_getElem.1 ht
 have hax:=bS h
 have hc:=(ay.1 h).2.2.2.1 k hk x hk hx
 have hd:=cx (hax _ (List.getElem_mem hk)) hx
 have h1:dimN (N.ts.take (k+1)) x=ar N.ts[k] x:=by
  rw[wN hax hk,if_pos hx]
  split
  ·rfl
  ·rcases hc with e | e
   ·rename_i h0;exact absurd e h0
   ·exact e
 have h2:=qJ (N.ts.take (k+1)) (N.ts.drop (k+1)) x fun t ht hx=>by
  have:=cx (hax t (List.mem_of_mem_take ht)) hx
  omega
 rw[List.take_append_drop,h1,if_neg (by omega)]at h2
 exact h2.symm
end Go.Proofs.YtjfmckhbmdjnpaaGreat
