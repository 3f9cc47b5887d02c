/-
  Contracts: lists of labels, buckets, eliminations. No condition.
-/
import Derived.Test.YtjoopfojiiklnaaMgPartsOfA
import Derived.Test.YtjoopfojiiklnaaPlE
import Derived.Test.YtjoopfojiiklnaaNetF
import Derived.Test.YtjoopfojiiklnaaLiftJ
namespace Go.Proofs.Ytjoopfojiiklnaa
open Go.RowKit Go.Lift Plain
set_option linter.unusedSimpArgs false
set_option linter.unusedVariables false
set_option maxRecDepth 100000

def ldv (L : List (List Int)) : List D := L.map ints
def lists (L : List (List Int)) : D := .sl L.length (ldv L)
def lsA (L : List (List Int)) : List AV := L.map fun l => .d (ints l)
section
variable {L M : List (List Int)} {l : List Int} {k : Nat}
theorem ldv_len : (ldv L).length = L.length := by simp [ldv]
theorem ldv_get (i : Nat) : (ldv L)[i]? = L[i]?.map ints := by simp [ldv]
theorem lsA_len : (lsA L).length = L.length := by simp [lsA]
theorem lsA_snoc : lsA L ++ [.d (.sl l.length (dv l))] = lsA (L ++ [l]) := by simp [lsA, ints]
theorem cellsD_lsA : cellsD (lsA L) = some (ldv L) := by
  induction L with
  | nil => rfl
  | cons x l ih => simp only [lsA, ldv, List.map_cons, cellsD, cellD] at ih ⊢; rw [ih]
theorem rnL_lsA (ρ : Nat → Option Nat) : rnL ρ (lsA L) = lsA L := by
  induction L with
  | nil => rfl
  | cons x l ih => simp only [lsA, List.map_cons, rnL, rn] at ih ⊢; rw [ih]
theorem mapL_fz_lsA (k e : Nat) (ls : List D) : mapL (fzG k e ls) (lsA L) = lsA L := by
  rw [mapL_eq, lsA, List.map_map]
  exact List.map_congr_left fun x _ => rfl
theorem mapL_fz_iv (k e : Nat) (ls : List D) (xs : List Int) : mapL (fzG k e ls) (iv xs) = iv xs := by
  rw [mapL_eq, iv, List.map_map]
  exact List.map_congr_left fun x _ => rfl
end
attribute [go_sem] lists ldv_len ldv_get lsA_len rnL_lsA cellsD_lsA mapL_fz_lsA mapL_fz_iv lsA_snoc
end Go.Proofs.Ytjoopfojiiklnaa
