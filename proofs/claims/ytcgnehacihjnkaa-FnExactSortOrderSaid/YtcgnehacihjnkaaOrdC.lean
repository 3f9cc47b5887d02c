/-
  Contracts: the state of an order, by the reference. No condition.
-/
import Derived.Test.YtcgnehacihjnkaaMgSortOrderA
import Derived.Test.YtcgnehacihjnkaaOrdL
import Derived.Test.YtcgnehacihjnkaaBoolA
import Derived.Test.YtcgnehacihjnkaaConK
namespace Go.Proofs.Ytcgnehacihjnkaa
open Go.RowKit Go.Lift Plain
set_option linter.unusedSimpArgs false
set_option linter.unusedVariables false
set_option maxRecDepth 100000

/-! ### Shapes: labels and their dimensions -/
def shT (T : List Int) (l : List Int) : Ten := ⟨l, l.map (atT T), []⟩
def shA (T : List Int) (L : List (List Int)) : List AV := L.flatMap fun l => [.d (ints l), .d (ints (l.map (atT T))), .nil]
def shD (T : List Int) (L : List (List Int)) : List D := tcs (L.map (shT T))
section
variable {T : List Int} {L : List (List Int)} {k : Nat}
theorem shA_len : (shA T L).length = L.length * 3 := by
  induction L with
  | nil => rfl
  | cons x l ih => rw [shA, List.flatMap_cons, List.length_append, ← shA, ih]; simp; omega
theorem shD_len : (shD T L).length = L.length * 3 := by rw [shD, tcs_len, List.length_map]
theorem shA_snoc (l : List Int) : shA T L ++ [.d (.sl l.length (dv l)), .d (.sl (l.map (atT T)).length (dv (l.map (atT T)))), .nil] = shA T (L ++ [l]) := by simp [shA, ints]
theorem cellsD_shA : cellsD (shA T L) = some (shD T L) := by
  induction L with
  | nil => rfl
  | cons x l ih => simp only [shA, shD, List.flatMap_cons, List.map_cons, tcs, List.cons_append, List.nil_append, cellsD, cellD] at ih ⊢; rw [ih]; rfl
theorem rnL_shA (ρ : Nat → Option Nat) : rnL ρ (shA T L) = shA T L := by
  induction L with
  | nil => rfl
  | cons x l ih => simp only [shA, List.flatMap_cons, List.cons_append, List.nil_append, rnL, rn] at ih ⊢; rw [ih]
theorem cgL_shA (gv M : List Nat) : cgL gv M (shA T L) = shA T L := by
  induction L with
  | nil => rfl
  | cons x l ih => simp only [shA, List.flatMap_cons, List.cons_append, List.nil_append, cgL, cgA] at ih ⊢; rw [ih]
theorem mapL_shA (k e : Nat) (ls : List D) : mapL (fzG k e ls) (shA T L) = shA T L := by
  induction L with
  | nil => rfl
  | cons x l ih => simp only [shA, List.flatMap_cons, List.cons_append, List.nil_append, mapL, mapA] at ih ⊢; rw [ih]; rfl
theorem mapL_bv (k e : Nat) (ls : List D) (xs : List Bool) : mapL (fzG k e ls) (bv xs) = bv xs := by
  rw [mapL_eq, bv, List.map_map]
  exact List.map_congr_left fun x _ => rfl
end
attribute [go_sem] shA_len shD_len rnL_shA cgL_shA mapL_shA cellsD_shA shA_snoc mapL_bv
/-! ### What is kept -/
section
variable {s : Osd} {os : List Int} {a b q m : Nat}
end
/-! ### The first state -/
theorem dimAt_netO {N : Net} (h : netOk N = true) {t : Ten} (ht : t ∈ N.ts) {x : Int} (hx : x ∈ t.labels) : dimAt t x = dimN N.ts x := by
  obtain ⟨k, hk, rfl⟩ := List.mem_iff_getElem.1 ht
  have hax := netOk_ax h
  have hc := (netOk_iff.1 h).2.2.2.1 k hk x hk hx
  have hd := dimAt_bd (hax _ (List.getElem_mem hk)) hx
  have h1 : dimN (N.ts.take (k + 1)) x = dimAt N.ts[k] x := by
    rw [dimN_next hax hk, if_pos hx]
    split
    · rfl
    · rcases hc with e | e
      · rename_i h0; exact absurd e h0
      · exact e
  have h2 := dimN_app (N.ts.take (k + 1)) (N.ts.drop (k + 1)) x fun t ht hx => by
    have := dimAt_bd (hax t (List.mem_of_mem_take ht)) hx
    omega
  rw [List.take_append_drop, h1, if_neg (by omega)] at h2
  exact h2.symm
theorem dims_net {N : Net} (h : netOk N = true) {t : Ten} (ht : t ∈ N.ts) : t.labels.map (atT (dimsR N.ts).1) = t.dims := by
  have hax := netOk_ax h
  have hok := (netOk_iff.1 h).2.2.2.1
  have hD := dimsR_ok hax
  rw [← dims_map (hax t ht)]
  refine List.map_congr_left fun x hx => ?_
  have hb : 0 ≤ x ∧ x ≤ 99 := by
    obtain ⟨k, hk, rfl⟩ := List.getElem_of_mem hx
    have := (hax t ht).2.2 k hk
    unfold axAt at this
    rw [getD_of hk] at this
    omega
  rw [hD.2 (hD.1.2 hok) x hb, dimAt_netO h ht hx]
/-! ### A step -/
end Go.Proofs.Ytcgnehacihjnkaa
