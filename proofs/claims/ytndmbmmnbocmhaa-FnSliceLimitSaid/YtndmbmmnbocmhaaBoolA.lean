/-
 Lists and arrays of Bools as cells; arrays of marked labels. No condition.
-/
import Derived.Test.YtndmbmmnbocmhaaArrA
set_option linter.unusedSimpArgs false
set_option linter.unusedVariables false
namespace Go.Proofs.Ytndmbmmnbocmhaa
open Go.RowKit Go.Lift Plain
def bv (xs : List Bool) : List AV := xs.map fun x => .d (.bool x)
def dbv (xs : List Bool) : List D := xs.map .bool
section
variable {xs ys : List Bool}
theorem bv_len : (bv xs).length = xs.length := by simp [bv]
theorem bv_get (i : Nat) : (bv xs)[i]? = xs[i]?.map fun x => .d (.bool x) := by simp [bv]
theorem dbv_get (i : Nat) : (dbv xs)[i]? = xs[i]?.map .bool := by simp [dbv]
theorem bv_take (n : Nat) : (bv xs).take n = bv (xs.take n) := by simp [bv, List.map_take]
theorem bv_drop (n : Nat) : (bv xs).drop n = bv (xs.drop n) := by simp [bv, List.map_drop]
theorem bv_app : bv xs ++ bv ys = bv (xs ++ ys) := by simp [bv]
theorem bv_snoc (x : Bool) : bv xs ++ [.d (.bool x)] = bv (xs ++ [x]) := by simp [bv]
theorem rnL_bv (f : Nat → Option Nat) : rnL f (bv xs) = bv xs := by
 induction xs with
 | nil => rfl
 | cons x l ih => simp only [bv, List.map_cons, rnL, rn] at ih ⊢; rw [ih]
theorem cellsD_bv : cellsD (bv xs) = some (dbv xs) := by
 induction xs with
 | nil => rfl
 | cons x l ih => simp only [bv, dbv, List.map_cons, cellsD, cellD] at ih ⊢; rw [ih]
theorem trB_bv : (bv xs).all trB = true := by
 induction xs with
 | nil => rfl
 | cons x l ih => simp only [bv, List.map_cons, List.all_cons] at ih ⊢; rw [ih]; rfl
theorem zeros_bv (n : Nat) (x : Bool) : Go.Lift.zeros n [.d (.bool x)] = bv (List.replicate n x) := by
 unfold Go.Lift.zeros bv
 induction n with
 | zero => rfl
 | succ n ih => rw [List.replicate_succ, List.flatten_cons, ih, List.replicate_succ]; rfl
theorem bv_nil : bv [] = [] := nr rfl
end
attribute [go_sem] bv_len bv_get dbv_get bv_take bv_drop bv_app bv_snoc rnL_bv cellsD_bv trB_bv zeros_bv
def bits (n : Nat) (f : Nat → Bool) : List Bool := (List.range n).map f
end Go.Proofs.Ytndmbmmnbocmhaa
