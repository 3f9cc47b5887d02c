/-
  Plain: a valid order, step by step. No condition.
-/
import Derived.Test.YtcgnehacihjnkaaOrdT
namespace Go.Proofs.Ytcgnehacihjnkaa
open Go.RowKit Go.Lift Plain
set_option linter.unusedSimpArgs false
set_option linter.unusedVariables false
set_option maxRecDepth 100000

/-! ### A valid order, step by step -/
section
variable {N : Net} {n : Nat} {F : List Int}
def stA (F : List Int) (k : Nat) : Nat := (F.getD (k * 2) 0).toNat
def stB (F : List Int) (k : Nat) : Nat := (F.getD (k * 2 + 1) 0).toNat
/-- What is known before step k of a valid order. -/
structure OrdOk (N : Net) (F : List Int) (k : Nat) : Prop where
  ok : OsOk (ordS N F k) (N.ts.length + k)
  t : OsT (dimsR N.ts).1 (ordS N F k)
structure OrdStep (N : Net) (F : List Int) (k : Nat) : Prop where
  a : F.getD (k * 2) 0 = stA F k
  b : F.getD (k * 2 + 1) 0 = stB F k
  ma : stA F k ∈ (ordS N F k).nums
  mb : stB F k ∈ (ordS N F k).nums
  lt : stA F k < stB F k
  nx : ordS N F (k + 1) = (ordS N F k).step N.os (stA F k) (stB F k)
  fol : followB (ordS N F k) (F.getD (k * 2) 0) (F.getD (k * 2 + 1) 0) = true
theorem ordStep (h : orderOk N n F = true) {k : Nat} (hk : k < n) : OrdStep N F k := by
  have h2 := (orderOk_iff.1 h).2.2
  have hf := ordTo_fol h2 hk
  obtain ⟨a, b, e1, e2, ha, hb, hab⟩ := followB_nat hf
  have ea : stA F k = a := by rw [stA, e1]; rfl
  have eb : stB F k = b := by rw [stB, e2]; rfl
  have hy := congrArg Prod.fst (ordTo_yes (ordTo_down h2 (Nat.le_of_lt hk)) hf)
  exact ⟨by rw [ea, e1], by rw [eb, e2], by rw [ea]; exact ha, by rw [eb]; exact hb, by rw [ea, eb]; exact hab, hy, hf⟩
theorem ordOk (h : orderOk N n F = true) : ∀ k, k ≤ n → OrdOk N F k
  | 0, _ => ⟨osInit_ok (netOk_ax (orderOk_iff.1 h).1), osInit_T (orderOk_iff.1 h).1⟩
  | k + 1, hk => by
    have ih := ordOk h k (by omega)
    have hs := ordStep h (show k < n by omega)
    exact ⟨by rw [hs.nx]; exact ih.ok.step _ _ _, by rw [hs.nx]; exact OsT.step ih.ok ih.t⟩
theorem OrdStep.at {k : Nat} (h : OrdStep N F k) (ho : OrdOk N F k) : stA F k < N.ts.length + k ∧ stB F k < N.ts.length + k := by
  have hn := ho.ok.n
  have h1 := (nums_mem.1 h.ma).1
  have h2 := (nums_mem.1 h.mb).1
  omega
end
end Go.Proofs.Ytcgnehacihjnkaa
