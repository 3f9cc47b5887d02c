/-
  Contracts: networks scaled, without units (by the reference), joined. No condition.
-/
import Derived.Test.YtlijfhfhonalgaaNetG
namespace Go.Proofs.Ytlijfhfhonalgaa
open Go.RowKit Go.Lift Plain
set_option linter.unusedSimpArgs false
set_option linter.unusedVariables false
set_option maxRecDepth 100000

theorem mapL_spG_iv (i j k' n : Nat) (xs : List Int) : mapL (spG i j k' n) (iv xs) = iv xs := mapL_iv _ fun _ => rfl
theorem mapL_spG_tcA (i j k' n : Nat) (ts : List Ten) : mapL (spG i j k' n) (tcA ts) = tcA ts := mapL_tcA _ fun _ => rfl
section
variable {A B : List AV} {q : Nat} {x y z : AV}
end
theorem markTs_take {ts : List Ten} {m : Int} : (tcA (markTs ts m)).take (ts.length * 3) = tcA (markTs ts m) := List.take_of_length_le (by rw [tcA_len, markTs_len]; exact Nat.le_refl _)
attribute [go_sem] markTs_take
end Go.Proofs.Ytlijfhfhonalgaa
