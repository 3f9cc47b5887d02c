/-
  Plain: the best width over sets of closed labels. No condition.
-/
import Derived.Test.YtjoopfojiiklnaaPlE
import Derived.Test.YtjoopfojiiklnaaPlR
namespace Go.Proofs.Ytjoopfojiiklnaa
open Go.RowKit Go.Lift Plain
set_option linter.unusedSimpArgs false
set_option linter.unusedVariables false

/-! ### Tables -/
def tab (n : Nat) (f : Nat → Int) : List Int := (List.range n).map f
section
variable {n : Nat} {f g : Nat → Int}
theorem tab_len (n : Nat) (f : Nat → Int) : (tab n f).length = n := by simp [tab]
theorem tab_get (f : Nat → Int) {j : Nat} (h : j < n) : (tab n f)[j]? = some (f j) := by simp [tab, h]
theorem tab_congr (h : ∀ j, j < n → f j = g j) : tab n f = tab n g := List.map_congr_left fun j hj => h j (by simpa using hj)
theorem tab_set {j : Nat} {v : Int} (h : ∀ i, i < n → g i = if i = j then v else f i) : (tab n f).set j v = tab n g := by
  refine List.ext_getElem? fun i => ?_
  rw [List.getElem?_set]
  by_cases hi : i < n
  · rw [tab_get f hi, tab_get g hi, h i hi]
    by_cases e : j = i
    · subst e; simp [tab_len, hi]
    · rw [if_neg e, if_neg (Ne.symm e)]
  · rw [List.getElem?_eq_none (l := tab n g) (by rw [tab_len]; omega)]
    split
    · rename_i e; subst e; rw [if_neg (by rw [tab_len]; exact hi)]
    · rw [List.getElem?_eq_none (by rw [tab_len]; omega)]
theorem tab_put {j : Nat} {v : Int} (hj : j < n) (h : ∀ i, i < n → g i = if i = j then v else f i) : (tab n f).take j ++ [v] ++ (tab n f).drop (j + 1) = tab n g := by
  rw [← tab_set h, List.set_eq_take_append_cons_drop, if_pos (by rw [tab_len]; exact hj)]
  simp
theorem tab_rep (n : Nat) : repI n 0 = tab n fun _ => 0 := by
  unfold repI tab
  rw [List.map_const', List.length_range]
end
/-! ### Bits -/
def bt (s k : Nat) : Bool := decide (s / 2 ^ k % 2 = 1)
/-! ### Least values -/
def lst (p : Nat → Bool) (v : Nat → Int) (a : Int) : Nat → Int
  | 0 => a
  | c + 1 => if p c = true then min (lst p v a c) (v c) else lst p v a c
section
variable {p q : Nat → Bool} {v w : Nat → Int} {a b : Int} {c : Nat}
end
/-! ### The widths of sets -/
section
variable {L : List (List Int)} {C : List Int} {s : Nat}
end
/-! ### The best width of a set -/
def best (W : Nat → Nat → Int) (c : Nat) (cap : Int) (s : Nat) : Int :=
  if h : s = 0 then 0 else lst (bt s) (fun i => max (best W c cap (s - 2 ^ i)) (W (s - 2 ^ i) i)) cap c
termination_by s
decreasing_by
  have := Nat.two_pow_pos i
  omega
section
variable {W : Nat → Nat → Int} {c : Nat} {cap cap' m : Int} {s : Nat}
variable {j k : Nat}
end
end Go.Proofs.Ytjoopfojiiklnaa
