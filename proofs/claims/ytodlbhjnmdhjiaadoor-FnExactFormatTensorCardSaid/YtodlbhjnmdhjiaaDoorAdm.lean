/-
  LIFT, part 0: the tables of the library's that the seat's rows lay. No condition.
-/
import Derived.Calls
import Derived.Lib.ItoaNum
namespace Go.Lift
/-- Each with the number of its block. -/
def knownTabs : List (Nat × List Value) := [(0, Lib.pow10Tab.map (Value.int .u64))]
end Go.Lift
