/-
  LIFT: slices at the end of a row. No condition.
-/
import Derived.Test.YtlijfhfhonalgaaLiftH
namespace Go.Lift
open Go.RowKit
theorem Wk.drG {m0 : Nat} (ids : List Nat) (m : Nat) {e : List AV} {σ : Sto} (hm : m0 ≤ m) (hl : m ≤ σ.length) (hn : ids.Nodup) (hi : (ids.all fun k => decide (m ≤ k)) = true) : Wk m0 e σ (Lift.dropG (nrmR m ids) [] e) (renS m ids σ) := Wk.dropG [] ids m hm hl hn hi rfl rfl
theorem Wk.ad3s {m0 m : Nat} (dead : List Bool) (k z q : Nat) (g : Bool) {τ : Sto} {A : List AV} {e : List AV} {n0 n1 n2 : Nat} {r0 r1 r2 : Root} {l0 l1 l2 : List D} (hm : m0 ≤ m) (hτ : τ.length = m) (hA : A.length = q)
    (hk : τ[k]? = some (some ⟨z, g, A ++ [.own m 0 n0, .own (m + 1) 0 n1, .own (m + 2) 0 n2]⟩))
    (t0 : treL r0.cells = some l0) (t1 : treL r1.cells = some l1) (t2 : treL r2.cells = some l2) (e0 : l0.length = n0 * r0.e) (e1 : l1.length = n1 * r1.e) (e2 : l2.length = n2 * r2.e)
    (f1 : ∀ ρ, rnL ρ r1.cells = r1.cells) (f2 : ∀ ρ, rnL ρ r2.cells = r2.cells) :
    Wk m0 e (τ ++ [some r0, some r1, some r2]) (dropF m dead e) (keepS m (τ.set k (some ⟨z, g, A ++ [.tr (.sl n0 l0), .tr (.sl n1 l1), .tr (.sl n2 l2)]⟩))) := by
  have := Wk.ad3 (m0 := m0) (B := []) (e := e) dead k z q g hm hτ hA (by rw [List.append_nil]; exact hk) t0 t1 t2 e0 e1 e2 f1 f2
  rwa [List.append_nil] at this
theorem rnL_two (ρ : Nat → Option Nat) (a b : List AV) : rnL ρ (a ++ b) = rnL ρ a ++ rnL ρ b := by rw [rnL_eq, rnL_eq, rnL_eq, List.map_append]
theorem dropF_none (m : Nat) : ∀ e : List AV, dropF m [] e = rnL (cut m) e
  | [] => rfl
  | x :: l => by rw [dropF, rnL, dropF_none m l]
attribute [go_sem] rnL_two dropF_none

/-! ### The three slices of a row become roots of their own -/
def noSub (σ : Sto) : Prop := ∀ i j k' n, σ.map (Option.map fun R => { R with cells := mapL (spG i j k' n) R.cells }) = σ
theorem noSub.at {σ : Sto} (h : noSub σ) {k : Nat} {R : Root} (hk : σ[k]? = some (some R)) (i j k' n : Nat) : mapL (spG i j k' n) R.cells = R.cells := by
  have h1 := congrArg (fun l => l[k]?) (h i j k' n)
  simp only [List.getElem?_map, hk, Option.map_some, Option.some.injEq] at h1
  exact congrArg Root.cells h1
theorem noSub.mk {σ : Sto} (h : ∀ (k : Nat) (R : Root), σ[k]? = some (some R) → ∀ i j k' n, mapL (spG i j k' n) R.cells = R.cells) : noSub σ := by
  intro i j k' n
  refine List.ext_getElem? fun k => ?_
  rw [List.getElem?_map]
  cases hk : σ[k]? with
  | none => rfl
  | some x =>
    cases x with
    | none => rfl
    | some R => simp [h k R hk i j k' n]
theorem mapL_cellT (i j k' n : Nat) (l : List D) : mapL (spG i j k' n) (l.map cellT) = l.map cellT := by
  rw [mapL_eq, List.map_map]
  refine List.map_congr_left fun x _ => ?_
  cases x <;> rfl
theorem spS_eq {k j n e : Nat} {l : List D} {σ : Sto} {R : Root} (h : noSub σ) (hk : σ[k]? = some (some R)) : spS k j n e l σ = σ.set k (some { R with cells := R.cells.set j (.own σ.length 0 n) }) ++ [some ⟨e, false, l.map cellT⟩] := by
  unfold spS
  rw [h]
  congr 1
  refine List.ext_getElem? fun i => ?_
  rw [List.getElem?_mapIdx, List.getElem?_set]
  have hkl : k < σ.length := (List.getElem?_eq_some_iff.1 hk).1
  by_cases e : k = i
  · subst e
    rw [if_pos rfl, if_pos hkl, hk]
    simp
  · rw [if_neg e]
    cases σ[i]? with
    | none => rfl
    | some x => simp [Ne.symm e]
theorem noSub.split {k j n e : Nat} {l : List D} {σ : Sto} {R : Root} (h : noSub σ) (hk : σ[k]? = some (some R)) : noSub (σ.set k (some { R with cells := R.cells.set j (.own σ.length 0 n) }) ++ [some ⟨e, false, l.map cellT⟩]) := by
  refine noSub.mk fun i Ri hi a b c d => ?_
  by_cases hlt : i < σ.length
  · rw [List.getElem?_append_left (by simpa using hlt), List.getElem?_set] at hi
    by_cases e : k = i
    · subst e
      rw [if_pos rfl, if_pos hlt] at hi
      simp only [Option.some.injEq] at hi
      subst hi
      have h0 := h.at hk a b c d
      simp only [mapL_eq] at h0 ⊢
      rw [List.map_set, h0]
      rfl
    · rw [if_neg e] at hi
      exact h.at hi a b c d
  · by_cases e : i = σ.length
    · subst e
      simp at hi
      subst hi
      exact mapL_cellT _ _ _ _ _
    · rw [List.getElem?_eq_none (by simp; omega)] at hi
      cases hi
end Go.Lift
