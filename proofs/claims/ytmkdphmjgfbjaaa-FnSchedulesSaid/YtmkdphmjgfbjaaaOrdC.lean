/-
 Contracts: the state of an order, by the reference. No condition.
-/
import Derived.Test.YtmkdphmjgfbjaaaMgSchedulesA
import Derived.Test.YtmkdphmjgfbjaaaOrdL
import Derived.Test.YtmkdphmjgfbjaaaArrA
import Derived.Test.YtmkdphmjgfbjaaaCoD
set_option linter.unusedSimpArgs false
set_option linter.unusedVariables false
namespace Go.Proofs.Ytmkdphmjgfbjaaa
open Go.RowKit Go.Lift Plain
set_option maxRecDepth 100000
section
variable {T : List Int} {L : List (List Int)} {k : Nat}
end
section
variable {s : Osd} {os : List Int} {a b q m : Nat}
end
theorem dimAt_netO {N : Net} (h : netOk N = true) {t : Ten} (ht : t ∈ N.ts) {x : Int} (hx : x ∈ t.labels) : dimAt t x = dimN N.ts x := by
 obtain ⟨k, hk, rfl⟩ := List.mem_iff_getElem.1 ht
 have hax := netOk_ax h
 have hc := (netOk_iff.1 h).2.2.2.1 k hk x hk hx
 have hd := dimAt_bd (hax _ (List.getElem_mem hk)) hx
 have h1 : dimN (N.ts.take (k + 1)) x = dimAt N.ts[k] x := by
  rw [dimN_next hax hk, if_pos hx]
  split
  ·rfl
  ·rcases hc with e | e
   ·rename_i h0; exact absurd e h0
   ·exact e
 have h2 := dimN_app (N.ts.take (k + 1)) (N.ts.drop (k + 1)) x fun t ht hx => by
  have := dimAt_bd (hax t (List.mem_of_mem_take ht)) hx
  omega
 rw [List.take_append_drop, h1, if_neg (by omega)] at h2
 exact h2.symm
theorem dims_net {N : Net} (h : netOk N = true) {t : Ten} (ht : t ∈ N.ts) : t.labels.map (atT (dimsR N.ts).1) = t.dims := by
 have hax := netOk_ax h
 have hok := (netOk_iff.1 h).2.2.2.1
 have hD := dimsR_ok hax
 rw [← dims_map (hax t ht)]
 refine List.map_congr_left fun x hx => ?_
 have hb : 0 ≤ x ∧ x ≤ 99 := by
  obtain ⟨k, hk, rfl⟩ := List.getElem_of_mem hx
  have := (hax t ht).2.2 k hk
  unfold axAt at this
  rw [getD_of hk] at this
  omega
 rw [hD.2 (hD.1.2 hok) x hb, dimAt_netO h ht hx]
def capP (T L : List Int) : Int := min (prodI (L.map (atT T))) 1000000000
end Go.Proofs.Ytmkdphmjgfbjaaa
