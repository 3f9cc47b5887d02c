/-
  Lists of steps among the arguments, opened as plain data. No condition.
-/
import Derived.Test.YtjncdanegoileaaOpenN
import Derived.Test.YtjncdanegoileaaStp
namespace Go.Proofs.Ytjncdanegoileaa
open Go.RowKit Go.Lift Go.ChangeShapes Go.WideShapes Plain
set_option maxRecDepth 100000

/-- An argument reads as a list of steps. -/
structure StpIn (w : World) (v : Value) (n : Nat) (F : List Int) : Prop where
  rel : Rel w (topL w) id (at_ []) (.d (stp n F)) v
  sz : StpSz 9223372036854775807 n F
section
variable {H : Type} {enc : TypeId × Value → H} {w : World} {base : Nat} {held : Bool} {r : Reach}
end
end Go.Proofs.Ytjncdanegoileaa
