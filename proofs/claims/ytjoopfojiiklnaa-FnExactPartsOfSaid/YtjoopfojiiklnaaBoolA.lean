/-
  Lists and arrays of Bools as cells; arrays of marked labels. No condition.
-/
import Derived.Test.YtjoopfojiiklnaaArrA
namespace Go.Proofs.Ytjoopfojiiklnaa
open Go.RowKit Go.Lift Plain
set_option linter.unusedSimpArgs false
def bv (xs : List Bool) : List AV := xs.map fun x => .d (.bool x)
def dbv (xs : List Bool) : List D := xs.map .bool
section
variable {xs ys : List Bool}
theorem bv_len : (bv xs).length = xs.length := by simp [bv]
theorem dbv_len : (dbv xs).length = xs.length := by simp [dbv]
theorem bv_get (i : Nat) : (bv xs)[i]? = xs[i]?.map fun x => .d (.bool x) := by simp [bv]
theorem dbv_get (i : Nat) : (dbv xs)[i]? = xs[i]?.map .bool := by simp [dbv]
theorem bv_take (n : Nat) : (bv xs).take n = bv (xs.take n) := by simp [bv, List.map_take]
theorem bv_drop (n : Nat) : (bv xs).drop n = bv (xs.drop n) := by simp [bv, List.map_drop]
theorem bv_app : bv xs ++ bv ys = bv (xs ++ ys) := by simp [bv]
theorem bv_mid (x : Bool) : bv xs ++ [.d (.bool x)] ++ bv ys = bv (xs ++ [x] ++ ys) := by simp [bv]
theorem bv_snoc (x : Bool) : bv xs ++ [.d (.bool x)] = bv (xs ++ [x]) := by simp [bv]
theorem dbv_map : (dbv xs).map .d = bv xs := by simp [bv, dbv]
theorem rnL_bv (f : Nat → Option Nat) : rnL f (bv xs) = bv xs := by
  induction xs with
  | nil => rfl
  | cons x l ih => simp only [bv, List.map_cons, rnL, rn] at ih ⊢; rw [ih]
theorem cellsD_bv : cellsD (bv xs) = some (dbv xs) := by
  induction xs with
  | nil => rfl
  | cons x l ih => simp only [bv, dbv, List.map_cons, cellsD, cellD] at ih ⊢; rw [ih]
theorem cellsI_bv : cellsI (bv xs) = some (bv xs) := by
  induction xs with
  | nil => rfl
  | cons x l ih => simp only [bv, List.map_cons, cellsI] at ih ⊢; rw [ih]; rfl
theorem trB_bv : (bv xs).all trB = true := by
  induction xs with
  | nil => rfl
  | cons x l ih => simp only [bv, List.map_cons, List.all_cons] at ih ⊢; rw [ih]; rfl
theorem okC_bv : (bv xs).all okC = true := by
  induction xs with
  | nil => rfl
  | cons x l ih => simp only [bv, List.map_cons, List.all_cons] at ih ⊢; rw [ih]; rfl
theorem flatB_bv : (bv xs).all flatB = true := by
  induction xs with
  | nil => rfl
  | cons x l ih => simp only [bv, List.map_cons, List.all_cons] at ih ⊢; rw [ih]; rfl
theorem flatS_bv : (bv xs).all flatS = true := by
  induction xs with
  | nil => rfl
  | cons x l ih => simp only [bv, List.map_cons, List.all_cons] at ih ⊢; rw [ih]; rfl
theorem scalL_bv : scalL (bv xs) = true := by
  induction xs with
  | nil => rfl
  | cons x l ih => simp only [bv, List.map_cons, scalL] at ih ⊢; rw [ih]; rfl
theorem zeros_bv (n : Nat) (x : Bool) : Go.Lift.zeros n [.d (.bool x)] = bv (List.replicate n x) := by
  unfold Go.Lift.zeros bv
  induction n with
  | zero => rfl
  | succ n ih => rw [List.replicate_succ, List.flatten_cons, ih, List.replicate_succ]; rfl
theorem cvL_bv (k : Nat) : ∀ (xs : List Bool) (j : Nat), cvL k j (bv xs) = bv xs
  | [], _ => rfl
  | x :: l, j => by
    have := cvL_bv k l (j + 1)
    simp only [bv, List.map_cons, cvL, cv] at this ⊢
    rw [this]
theorem expC_bv (s : St) : ∀ (xs : List Bool), expC s (bv xs) = some (bv xs)
  | [] => rfl
  | x :: l => by
    have := expC_bv s l
    simp only [bv, List.map_cons, expC, exp1] at this ⊢
    rw [this]
theorem rwC_bv (s : St) (M : List Nat) : ∀ (xs : List Bool), rwC s M (bv xs) = some (bv xs)
  | [] => rfl
  | x :: l => by
    have := rwC_bv s M l
    simp only [bv, List.map_cons, rwC, rw1, exp1, Option.map_some] at this ⊢
    rw [this]
theorem plainL_bv : ∀ (xs : List Bool), plainL (bv xs) = true
  | [] => rfl
  | x :: l => by
    have := plainL_bv l
    simp only [bv, List.map_cons, plainL, plain] at this ⊢
    rw [this]; rfl
theorem idsL_bv : ∀ (xs : List Bool), idsL (bv xs) = []
  | [] => rfl
  | x :: l => by
    have := idsL_bv l
    simp only [bv, List.map_cons, idsL, idsA] at this ⊢
    rw [this]; rfl
theorem cgL_bv (gv : List Nat) (M : List Nat) : cgL gv M (bv xs) = bv xs := by
  rw [cgL_eq, bv, List.map_map]
  exact List.map_congr_left fun x _ => rfl
end
attribute [go_sem] bv_len dbv_len bv_get dbv_get bv_take bv_drop bv_app bv_mid bv_snoc dbv_map rnL_bv cellsD_bv cellsI_bv trB_bv okC_bv flatB_bv flatS_bv scalL_bv zeros_bv cvL_bv expC_bv rwC_bv plainL_bv idsL_bv cgL_bv
def bits (n : Nat) (f : Nat → Bool) : List Bool := (List.range n).map f
theorem bits_len (n : Nat) (f : Nat → Bool) : (bits n f).length = n := by simp [bits]
theorem bits_const (n : Nat) (b : Bool) : List.replicate n b = bits n fun _ => b := by
  refine List.ext_getElem (by simp [bits]) fun i h1 h2 => by simp [bits]
theorem reps_bool (n : Nat) (x : Bool) : reps n (.d (.bool x)) = bv (bits n fun _ => x) := by
  rw [← bits_const]
  unfold reps bv
  simp
attribute [go_sem] reps_bool bits_len
end Go.Proofs.Ytjoopfojiiklnaa
