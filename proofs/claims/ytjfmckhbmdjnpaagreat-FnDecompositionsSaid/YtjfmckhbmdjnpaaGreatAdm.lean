/-
 LIFT, part 0: the tables of the library's that the seat's rows lay. No condition.
-/
import Derived.Calls
import Derived.Test.YtjfmckhbmdjnpaaGreatPlainA
namespace Go.Lift
def rl:List (Nat × List Value):=[]
end Go.Lift
