/-
 Arrays of ints as lists. No condition.
-/
import Derived.Test.YtmkdphmjgfbjaaaPlN
set_option linter.unusedSimpArgs false
set_option linter.unusedVariables false
namespace Go.Proofs.Ytmkdphmjgfbjaaa
open Go.RowKit Go.Lift Plain
section
variable {xs : List Int}
theorem cvL_iv (k : Nat) : ∀ (xs : List Int) (j : Nat), cvL k j (iv xs) = iv xs
 | [], _ => rfl
 | x :: l, j => by
  have := cvL_iv k l (j + 1)
  simp only [iv, List.map_cons, cvL, cv] at this ⊢
  rw [this]
theorem expC_iv (s : St) : ∀ (xs : List Int), expC s (iv xs) = some (iv xs)
 | [] => rfl
 | x :: l => by
  have := expC_iv s l
  simp only [iv, List.map_cons, expC, exp1] at this ⊢
  rw [this]
theorem plainL_iv : ∀ (xs : List Int), plainL (iv xs) = true
 | [] => rfl
 | x :: l => by
  have := plainL_iv l
  simp only [iv, List.map_cons, plainL, plain] at this ⊢
  rw [this]; rfl
theorem idsL_iv : ∀ (xs : List Int), idsL (iv xs) = []
 | [] => rfl
 | x :: l => by
  have := idsL_iv l
  simp only [iv, List.map_cons, idsL, idsA] at this ⊢
  rw [this]; rfl
theorem cgL_iv (gv : List Nat) (M : List Nat) : cgL gv M (iv xs) = iv xs := by
 rw [cgL_eq, iv, List.map_map]
 exact List.map_congr_left fun x _ => rfl
theorem atT_get {D : List Int} {x : Int} (hl : D.length = 100) (hx : 0 ≤ x ∧ x ≤ 99) : D[x.toNat]? = some (atT D x) := by
 unfold atT
 rw [getD_of (by omega)]
 exact List.getElem?_eq_getElem (by omega)
theorem dv_nil : dv [] = [] := nr rfl
end
attribute [go_sem] dv_nil cvL_iv expC_iv plainL_iv idsL_iv cgL_iv reps_int repI_len
section
variable {xs ys : List Bool}
end
def bits (n : Nat) (f : Nat → Bool) : List Bool := (List.range n).map f
end Go.Proofs.Ytmkdphmjgfbjaaa
