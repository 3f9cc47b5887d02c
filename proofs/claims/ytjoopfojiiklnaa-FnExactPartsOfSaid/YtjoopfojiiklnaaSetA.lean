/-
  Contracts: labels that are marked in an array; labels of a set of tensors. No condition.
-/
import Derived.Test.YtjoopfojiiklnaaMgPartsOfA
import Derived.Test.YtjoopfojiiklnaaBoolA
import Derived.Test.YtjoopfojiiklnaaNetF
import Derived.Test.YtjoopfojiiklnaaLiftI
namespace Go.Proofs.Ytjoopfojiiklnaa
open Go.RowKit Go.Lift Plain
set_option linter.unusedSimpArgs false
set_option linter.unusedVariables false
set_option maxRecDepth 100000

/-! ### Some of the tensors -/
section
variable {p : Nat → Bool} {ts : List Ten} {k : Nat}
end
/-! ### Lists of tensors that nobody writes -/
def tcD (ts : List Ten) : List AV := (tcs ts).map .d
section
variable {ts : List Ten}
theorem tcD_len : (tcD ts).length = ts.length * 3 := by simp [tcD, tcs_len]
theorem rnL_dmap (ρ : Nat → Option Nat) : ∀ l : List D, rnL ρ (l.map .d) = l.map .d
  | [] => rfl
  | x :: l => by rw [List.map_cons, rnL, rnL_dmap ρ l]; rfl
theorem cellsD_dmap : ∀ l : List D, cellsD (l.map .d) = some l
  | [] => rfl
  | x :: l => by rw [List.map_cons, cellsD, cellsD_dmap l]; rfl
theorem rnL_tcD (ρ : Nat → Option Nat) : rnL ρ (tcD ts) = tcD ts := rnL_dmap ρ _
theorem cellsD_tcD : cellsD (tcD ts) = some (tcs ts) := cellsD_dmap _
theorem tcD_all : (tcD ts).take (ts.length * 3) = tcD ts := List.take_of_length_le (by rw [tcD_len]; exact Nat.le_refl _)
end
attribute [go_sem] tcD_len rnL_tcD cellsD_tcD tcD_all
end Go.Proofs.Ytjoopfojiiklnaa
