/-
  LIFT: slices at the end of a row. No condition.
-/
import Derived.Test.YtmggkcifakbfeaaLiftH
namespace Go.Lift
open Go.RowKit
theorem rnL_two (ρ : Nat → Option Nat) (a b : List AV) : rnL ρ (a ++ b) = rnL ρ a ++ rnL ρ b := by rw [rnL_eq, rnL_eq, rnL_eq, List.map_append]
theorem dropF_none (m : Nat) : ∀ e : List AV, dropF m [] e = rnL (cut m) e
  | [] => rfl
  | x :: l => by rw [dropF, rnL, dropF_none m l]
attribute [go_sem] rnL_two dropF_none

/-! ### The three slices of a row become roots of their own -/
def noSub (σ : Sto) : Prop := ∀ i j k' n, σ.map (Option.map fun R => { R with cells := mapL (spG i j k' n) R.cells }) = σ
theorem noSub.at {σ : Sto} (h : noSub σ) {k : Nat} {R : Root} (hk : σ[k]? = some (some R)) (i j k' n : Nat) : mapL (spG i j k' n) R.cells = R.cells := by
  have h1 := congrArg (fun l => l[k]?) (h i j k' n)
  simp only [List.getElem?_map, hk, Option.map_some, Option.some.injEq] at h1
  exact congrArg Root.cells h1
theorem noSub.mk {σ : Sto} (h : ∀ (k : Nat) (R : Root), σ[k]? = some (some R) → ∀ i j k' n, mapL (spG i j k' n) R.cells = R.cells) : noSub σ := by
  intro i j k' n
  refine List.ext_getElem? fun k => ?_
  rw [List.getElem?_map]
  cases hk : σ[k]? with
  | none => rfl
  | some x =>
    cases x with
    | none => rfl
    | some R => simp [h k R hk i j k' n]
theorem mapL_cellT (i j k' n : Nat) (l : List D) : mapL (spG i j k' n) (l.map cellT) = l.map cellT := by
  rw [mapL_eq, List.map_map]
  refine List.map_congr_left fun x _ => ?_
  cases x <;> rfl
theorem noSub.split {k j n e : Nat} {l : List D} {σ : Sto} {R : Root} (h : noSub σ) (hk : σ[k]? = some (some R)) : noSub (σ.set k (some { R with cells := R.cells.set j (.own σ.length 0 n) }) ++ [some ⟨e, false, l.map cellT⟩]) := by
  refine noSub.mk fun i Ri hi a b c d => ?_
  by_cases hlt : i < σ.length
  · rw [List.getElem?_append_left (by simpa using hlt), List.getElem?_set] at hi
    by_cases e : k = i
    · subst e
      rw [if_pos rfl, if_pos hlt] at hi
      simp only [Option.some.injEq] at hi
      subst hi
      have h0 := h.at hk a b c d
      simp only [mapL_eq] at h0 ⊢
      rw [List.map_set, h0]
      rfl
    · rw [if_neg e] at hi
      exact h.at hi a b c d
  · by_cases e : i = σ.length
    · subst e
      simp at hi
      subst hi
      exact mapL_cellT _ _ _ _ _
    · rw [List.getElem?_eq_none (by simp; omega)] at hi
      cases hi
end Go.Lift
