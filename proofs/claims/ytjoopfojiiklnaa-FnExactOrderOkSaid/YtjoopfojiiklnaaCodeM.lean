/-
  The compiled code of functions of the seat (written by mkcode.py). No condition.
-/
import Derived.Test.YtjoopfojiiklnaaLiftE
import Derived.Test.YtjoopfojiiklnaaProg
import Derived.KernelRfl
namespace Go.Proofs.Ytjoopfojiiklnaa
open Go.Lift

end Go.Proofs.Ytjoopfojiiklnaa
