/-
 LIFT, part 0: the tables of the library's that the seat's rows lay. No condition.
-/
import Derived.Calls
namespace Go.Lift
def nD:List (Nat × List Value):=[]
end Go.Lift
