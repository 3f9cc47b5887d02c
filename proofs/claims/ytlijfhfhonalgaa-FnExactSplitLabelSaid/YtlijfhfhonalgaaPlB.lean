/-
  Plain lists: labels without some, axes fused. No condition.
-/
import Derived.Test.YtlijfhfhonalgaaPlB0
import Derived.Test.YtlijfhfhonalgaaCoD
namespace Go.Proofs.Ytlijfhfhonalgaa
open Go.RowKit Go.Lift Plain
set_option linter.unusedSimpArgs false
set_option linter.unusedVariables false

theorem permR_fits {r : Rg} {t : Ten} {L : List Int} {wd n : Nat} (hf : fits r t.data) : fits r (permR wd t L).data := fits_of fun x hx => fits_mem hf x (gath_mem x hx)
theorem permR_dlen {t : Ten} {L : List Int} {wd n : Nat} (h : PermOk t L wd n) : ((permR wd t L).data.length : Int) = prodI (permD t L) * wd := by
  show ((gath t.data wd (permOff t L) (permN t L)).length : Int) = _
  rw [gath_len fun q _ => h.cut q, h.pN]
  simp
theorem permD_app (t : Ten) (A B : List Int) : permD t (A ++ B) = permD t A ++ permD t B := by simp [permD]
theorem permD_len (t : Ten) (A : List Int) : (permD t A).length = A.length := by simp [permD]
theorem prodI_one (d : Int) : prodI [d] = d := by simp [prodI]
set_option maxRecDepth 100000
end Go.Proofs.Ytlijfhfhonalgaa
