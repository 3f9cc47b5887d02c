/-
  Plain lists: an index filled in label by label; slices of a box of indices. No condition.
-/
import Derived.Test.YtmgifmgdfldheaaPl3
namespace Go.Proofs.Ytmgifmgdfldheaa
open Plain
set_option linter.unusedSimpArgs false
set_option linter.unusedVariables false

/-- The index by axes, after the first k labels of L have been given their values. -/
def fillX (ls L xs old : List Int) (k : Nat) : List Int := (List.range ls.length).map fun j => if ls.getD j 0 ∈ L.take k then atL L xs (ls.getD j 0) else old.getD j 0
theorem fillX_len (ls L xs old : List Int) (k : Nat) : (fillX ls L xs old k).length = ls.length := by simp [fillX]
theorem fillX_zero {ls L xs old : List Int} (h : old.length = ls.length) : fillX ls L xs old 0 = old := by
  refine List.ext_getElem (by simp [fillX, h]) fun j h1 h2 => ?_
  simp only [fillX, List.getElem_map, List.getElem_range, List.take_zero, List.not_mem_nil, if_false]
  exact getD_of h2
theorem nodup_at {L : List Int} (h : L.Nodup) {i j : Nat} (hi : i < L.length) (hj : j < L.length) (e : L[i] = L[j]) : i = j := by
  rcases Nat.lt_trichotomy i j with h1 | h1 | h1
  · exact absurd e (List.pairwise_iff_getElem.1 h i j hi hj h1)
  · exact h1
  · exact absurd e.symm (List.pairwise_iff_getElem.1 h j i hj hi h1)
theorem fresh_of {L : List Int} (h : L.Nodup) {k : Nat} (hk : k < L.length) : L[k] ∉ L.take k := by
  intro hm
  obtain ⟨i, hi, e⟩ := List.mem_iff_getElem.1 hm
  have hi' : i < k := by simp at hi; omega
  simp at e
  have := nodup_at h (by omega) hk e
  omega
theorem atL_at {L xs : List Int} (h : L.Nodup) {k : Nat} (hk : k < L.length) : atL L xs L[k] = xs.getD k 0 := by
  rw [atL, place_at hk (fresh_of h hk)]; rfl
theorem fillX_step {ls L xs old : List Int} {k : Nat} (hn : ls.Nodup) (hL : L.Nodup) (hk : k < L.length) (hm : L[k] ∈ ls) :
    (fillX ls L xs old k).set (place ls L[k]).toNat (xs.getD k 0) = fillX ls L xs old (k + 1) := by
  obtain ⟨p, hp, e1, e2, _⟩ := place_mem hm
  rw [e1, Int.toNat_natCast]
  refine List.ext_getElem (by simp [fillX]) fun j h1 h2 => ?_
  have hj : j < ls.length := by simpa [fillX] using h2
  rw [List.getElem_set]
  simp only [fillX, List.getElem_map, List.getElem_range, getD_of hj, take_ss hk, List.mem_append, List.mem_singleton]
  by_cases e : p = j
  · subst e
    rw [if_pos rfl, if_pos (.inr e2), e2, atL_at hL hk]
  · rw [if_neg e]
    have hne : ls[j] ≠ L[k] := fun e' => e (nodup_at hn hp hj (e2.trans e'.symm))
    by_cases hm' : ls[j] ∈ L.take k
    · rw [if_pos hm', if_pos (.inl hm')]
    · rw [if_neg hm', if_neg (by simp [hm', hne])]
theorem fillX_full {ls L xs old : List Int} (hs : ∀ l ∈ ls, l ∈ L) {k : Nat} (hk : L.length ≤ k) : fillX ls L xs old k = ls.map (atL L xs) := by
  refine List.ext_getElem (by simp [fillX]) fun j h1 h2 => ?_
  have hj : j < ls.length := by simpa using h2
  simp only [fillX, List.getElem_map, List.getElem_range, getD_of hj]
  rw [if_pos (by rw [List.take_of_length_le hk]; exact hs _ (List.getElem_mem hj))]
end Go.Proofs.Ytmgifmgdfldheaa
