/-
 Contracts: the first state of an order, whether an order is valid, by the program. No condition.
-/
import Derived.Test.YtjfmckhbmdjnpaaGreatOrdL
import Derived.Test.YtjfmckhbmdjnpaaGreatStp
import Derived.Test.YtjfmckhbmdjnpaaGreatArrA
set_option linter.unusedSimpArgs false
set_option linter.unusedVariables false
namespace Go.Proofs.YtjfmckhbmdjnpaaGreat
open Go.RowKit Go.Lift Plain
set_option maxRecDepth 100000
end Go.Proofs.YtjfmckhbmdjnpaaGreat
