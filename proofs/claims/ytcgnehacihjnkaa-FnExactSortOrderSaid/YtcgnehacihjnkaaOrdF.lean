/-
  Contracts: pairs, seeds, random orders. No condition.
-/
import Derived.Test.YtcgnehacihjnkaaPlP
import Derived.Test.YtcgnehacihjnkaaPlK
import Derived.Test.YtcgnehacihjnkaaOrdT
namespace Go.Proofs.Ytcgnehacihjnkaa
open Go.RowKit Go.Lift Plain
set_option linter.unusedSimpArgs false
set_option linter.unusedVariables false
set_option maxRecDepth 100000

theorem iv_flat (l : List (Nat × Nat)) (a b : Nat) : iv (flatP l) ++ [.d (.int (a : Int)), .d (.int (b : Int))] = iv (flatP (l ++ [(a, b)])) := by rw [← flatP_snoc]; simp [iv]
/-! ### Seeds -/
/-! ### Random orders -/
structure Rnd where
  s : Osd
  seed : Int
  ps : List (Nat × Nat)
/-- What is known of a state with q tensors, after k steps. -/
structure RndOk (os : List Int) (r : Rnd) (m q : Nat) : Prop where
  ok : OsOk r.s m
  n : r.s.nums.length = q
/-! ### By the program -/
end Go.Proofs.Ytcgnehacihjnkaa
