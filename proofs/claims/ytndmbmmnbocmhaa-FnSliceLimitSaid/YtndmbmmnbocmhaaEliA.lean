/-
 Contracts: lists of labels, buckets, eliminations. No condition.
-/
import Derived.Test.YtndmbmmnbocmhaaMgSliceLimitA
import Derived.Test.YtndmbmmnbocmhaaCoB
import Derived.Test.YtndmbmmnbocmhaaNetE
import Derived.Test.YtndmbmmnbocmhaaLiftI
set_option linter.unusedSimpArgs false
set_option linter.unusedVariables false
namespace Go.Proofs.Ytndmbmmnbocmhaa
open Go.RowKit Go.Lift Plain
set_option maxRecDepth 100000
def ldv (L : List (List Int)) : List D := L.map ints
def lists (L : List (List Int)) : D := .sl L.length (ldv L)
section
variable {L M : List (List Int)} {l : List Int} {k : Nat}
theorem mapL_fz_iv (k e : Nat) (ls : List D) (xs : List Int) : mapL (fzG k e ls) (iv xs) = iv xs := by
 rw [mapL_eq, iv, List.map_map]
 exact List.map_congr_left fun x _ => rfl
end
attribute [go_sem] lists mapL_fz_iv
theorem copyInts_f {xs : List Int} (h : xs.length ≤ 1099511627776) : Does Try.prog 33 [.d (ints xs)] [] (.d (ints xs)) [] := (copyInts_d h).fzI
end Go.Proofs.Ytndmbmmnbocmhaa
