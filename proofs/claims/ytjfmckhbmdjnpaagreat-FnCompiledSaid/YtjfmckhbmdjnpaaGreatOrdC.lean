/-
 Contracts: the state of an order, by the reference. No condition.
-/
import Derived.Test.YtjfmckhbmdjnpaaGreatMgCompiledA
import Derived.Test.YtjfmckhbmdjnpaaGreatOrdL
import Derived.Test.YtjfmckhbmdjnpaaGreatBoolA
import Derived.Test.YtjfmckhbmdjnpaaGreatConM
set_option linter.unusedSimpArgs false
set_option linter.unusedVariables false
namespace Go.Proofs.YtjfmckhbmdjnpaaGreat
open Go.RowKit Go.Lift Plain
set_option maxRecDepth 100000
section
variable {T : List Int} {L : List (List Int)} {k : Nat}
end
section
variable {s : Osd} {os : List Int} {a b q m : Nat}
end
theorem jp {N:Net} (h:bp N=true) {t:Ten} (ht:t∈N.ts) {x:Int} (hx:x∈t.labels):ar t x=dimN N.ts x:=by
 obtain⟨k,hk,rfl⟩:=List.mem_iff_getElem.1 ht
 have hax:=bZ h
 have hc:=(an.1 h).2.2.2.1 k hk x hk hx
 have hd:=cF (hax _ (List.getElem_mem hk)) hx
 have h1:dimN (N.ts.take (k+1)) x=ar N.ts[k] x:=by
  rw[ym hax hk,if_pos hx]
  split
  ·rfl
  ·rcases hc with e | e
   ·rename_i h0;exact absurd e h0
   ·exact e
 have h2:=sx (N.ts.take (k+1)) (N.ts.drop (k+1)) x fun t ht hx=>by
  have:=cF (hax t (List.mem_of_mem_take ht)) hx
  omega
 rw[List.take_append_drop,h1,if_neg (by omega)]at h2
 exact h2.symm
theorem H3 {N:Net} (h:bp N=true) {t:Ten} (ht:t∈N.ts):t.labels.map (atT (aK N.ts).1)=t.dims:=by
 have hax:=bZ h
 have hok:=(an.1 h).2.2.2.1
 have hD:=sw hax
 rw[← oP (hax t ht)]
 refine List.map_congr_left fun x hx=> ?_
 have hb:0≤x∧x≤99:=by
  obtain⟨k,hk,rfl⟩:=List.getElem_of_mem hx
  have:=(hax t ht).2.2 k hk
  unfold axAt at this
  rw[ae hk]at this
  omega
 rw[hD.2 (hD.1.2 hok) x hb,jp h ht hx]
def capP (T L:List Int):Int:=min (aa (L.map (atT T))) 1000000000
end Go.Proofs.YtjfmckhbmdjnpaaGreat
