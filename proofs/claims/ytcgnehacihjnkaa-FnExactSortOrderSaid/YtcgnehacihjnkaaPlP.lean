/-
  Plain lists: pairs of the tensors that are there, by number and by place. No condition.
-/
import Derived.Test.YtcgnehacihjnkaaPlO
namespace Go.Proofs.Ytcgnehacihjnkaa
open Plain
set_option linter.unusedSimpArgs false
set_option linter.unusedVariables false

/-- Pairs as a flat list. -/
def flatP (l : List (Nat × Nat)) : List Int := l.flatMap fun p => [(p.1 : Int), (p.2 : Int)]
theorem flatP_len (l : List (Nat × Nat)) : (flatP l).length = l.length * 2 := by
  induction l with
  | nil => rfl
  | cons x l ih => rw [flatP, List.flatMap_cons, List.length_append, ← flatP, ih]; simp; omega
theorem flatP_snoc (l : List (Nat × Nat)) (p : Nat × Nat) : flatP l ++ [(p.1 : Int), (p.2 : Int)] = flatP (l ++ [p]) := by simp [flatP]
end Go.Proofs.Ytcgnehacihjnkaa
