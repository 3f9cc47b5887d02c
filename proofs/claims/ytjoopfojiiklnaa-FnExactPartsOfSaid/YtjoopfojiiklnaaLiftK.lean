/-
  LIFT: regions whose order is drawn up to an append. No condition.
-/
import Derived.Test.YtjoopfojiiklnaaLiftE
namespace Go.Lift
open Go.RowKit

section
variable {P : Program} {γe : Labels} {φ0 : Nat → Nat} {we : World} {σ0 : Sto}
end
end Go.Lift
