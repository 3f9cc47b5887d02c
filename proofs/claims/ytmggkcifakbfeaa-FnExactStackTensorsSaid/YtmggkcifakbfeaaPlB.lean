/-
  Plain lists: labels without some, axes fused. No condition.
-/
import Derived.Test.YtmggkcifakbfeaaPlB0
import Derived.Test.YtmggkcifakbfeaaCoD
namespace Go.Proofs.Ytmggkcifakbfeaa
open Go.RowKit Go.Lift Plain
set_option linter.unusedSimpArgs false
set_option linter.unusedVariables false

theorem permR_fits {r : Rg} {t : Ten} {L : List Int} {wd n : Nat} (hf : fits r t.data) : fits r (permR wd t L).data := fits_of fun x hx => fits_mem hf x (gath_mem x hx)
theorem permR_dlen {t : Ten} {L : List Int} {wd n : Nat} (h : PermOk t L wd n) : ((permR wd t L).data.length : Int) = prodI (permD t L) * wd := by
  show ((gath t.data wd (permOff t L) (permN t L)).length : Int) = _
  rw [gath_len fun q _ => h.cut q, h.pN]
  simp
set_option maxRecDepth 100000
end Go.Proofs.Ytmggkcifakbfeaa
