/-
 LIFT, part 0: the tables of the library's that the seat's rows lay. No condition.
-/
import Derived.Calls
import Derived.Lib.ItoaNum
import Derived.Test.YtobhmajhachnaaaGreatDoorPlainA
namespace Go.Lift
def qc:List (Nat × (List Value→Prop)):=[(3,fun l=>l=Lib.pow10Tab.map (Value.int .u64)),(2,fun l=>∃m,l=[.int .i64 m])]
end Go.Lift
