/-
  Contracts: labels, uses, neighbours, closed labels. No condition.
-/
import Derived.Test.YtjoopfojiiklnaaMgPartsOfA
import Derived.Test.YtjoopfojiiklnaaNetC
import Derived.Test.YtjoopfojiiklnaaPlB0
namespace Go.Proofs.Ytjoopfojiiklnaa
open Go.RowKit Go.Lift Plain
set_option linter.unusedSimpArgs false
set_option linter.unusedVariables false
set_option maxRecDepth 100000

def pickTo (p : Nat → Bool) (n : Nat) : List Int := ((List.range n).filter p).map fun (i : Nat) => (i : Int)
theorem pickTo_yes {p : Nat → Bool} {k : Nat} (h : p k = true) : pickTo p (k + 1) = pickTo p k ++ [(k : Int)] := by simp [pickTo, List.range_succ, h]
theorem pickTo_no {p : Nat → Bool} {k : Nat} (h : p k = false) : pickTo p (k + 1) = pickTo p k := by simp [pickTo, List.range_succ, h]
theorem pickTo_len (p : Nat → Bool) (k : Nat) : (pickTo p k).length ≤ k := by
  rw [pickTo, List.length_map]
  exact Nat.le_trans (List.length_filter_le _ _) (by simp)
theorem pickTo_mem {p : Nat → Bool} {n : Nat} {x : Int} (h : x ∈ pickTo p n) : ∃ i : Nat, i < n ∧ p i = true ∧ x = i := by
  simp only [pickTo, List.mem_map, List.mem_filter, List.mem_range] at h
  obtain ⟨i, ⟨h1, h2⟩, rfl⟩ := h
  exact ⟨i, h1, h2, rfl⟩
def labP (ts : List Ten) (i : Nat) : Bool := dimN ts i != 0
end Go.Proofs.Ytjoopfojiiklnaa
