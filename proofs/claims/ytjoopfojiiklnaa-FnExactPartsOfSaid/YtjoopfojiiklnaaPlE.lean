/-
  Plain lists of label lists: buckets, elimination. No condition.
-/
import Derived.Test.YtjoopfojiiklnaaPlB0
namespace Go.Proofs.Ytjoopfojiiklnaa
open Go.RowKit Go.Lift Plain
set_option linter.unusedSimpArgs false
set_option linter.unusedVariables false

section
variable {L : List (List Int)} {x : Int} {k : Nat}
end
end Go.Proofs.Ytjoopfojiiklnaa
