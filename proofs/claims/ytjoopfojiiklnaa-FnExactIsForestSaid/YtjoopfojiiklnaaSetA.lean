/-
  Contracts: labels that are marked in an array; labels of a set of tensors. No condition.
-/
import Derived.Test.YtjoopfojiiklnaaMgIsForestA
import Derived.Test.YtjoopfojiiklnaaBoolA
import Derived.Test.YtjoopfojiiklnaaNetF
import Derived.Test.YtjoopfojiiklnaaLiftI
namespace Go.Proofs.Ytjoopfojiiklnaa
open Go.RowKit Go.Lift Plain
set_option linter.unusedSimpArgs false
set_option linter.unusedVariables false
set_option maxRecDepth 100000

/-! ### Some of the tensors -/
section
variable {p : Nat → Bool} {ts : List Ten} {k : Nat}
end
/-- Does some tensor have the label? -/
def anyL (ts : List Ten) (x : Int) : Bool := ts.any fun t => has t.labels x
theorem anyL_dim {ts : List Ten} (h : axOks ts) (x : Int) : anyL ts x = (dimN ts x != 0) := by
  have key : anyL ts x = true ↔ dimN ts x ≠ 0 := by
    unfold anyL
    simp only [List.any_eq_true, has_true]
    constructor
    · rintro ⟨t, ht, hx⟩
      -- the first one
      have : ∃ k, ∃ hk : k < ts.length, x ∈ ts[k].labels ∧ ∀ t ∈ ts.take k, x ∉ t.labels := by
        clear h
        induction ts with
        | nil => cases ht
        | cons u l ih =>
          by_cases hu : x ∈ u.labels
          · exact ⟨0, by simp, hu, by simp⟩
          · rcases List.mem_cons.1 ht with e | ht
            · subst e; exact absurd hx hu
            · obtain ⟨k, hk, h1, h2⟩ := ih ht
              refine ⟨k + 1, by simpa using hk, by simpa using h1, fun v hv => ?_⟩
              simp only [List.take_succ_cons, List.mem_cons] at hv
              rcases hv with rfl | hv
              · exact hu
              · exact h2 v hv
      obtain ⟨k, hk, h1, h2⟩ := this
      rw [dimN_first h hk h2 h1]
      have := dimAt_bd (h ts[k] (List.getElem_mem hk)) h1
      omega
    · intro h0
      false_or_by_contra
      rename_i hc
      exact h0 (dimN_none fun t ht hx => hc ⟨t, ht, hx⟩)
  cases h1 : anyL ts x
  · have : dimN ts x = 0 := by
      false_or_by_contra
      rename_i hc
      rw [key.2 hc] at h1
      cases h1
    simp [this]
  · have := key.1 h1
    simp [this]
theorem ax_labels {t : Ten} (h : axOk t.labels t.dims) : ∀ x ∈ t.labels, 0 ≤ x ∧ x ≤ 99 := fun x hx => by
  obtain ⟨k, hk, rfl⟩ := List.mem_iff_getElem.1 hx
  have := h.2.2 k hk
  unfold axAt at this
  rw [getD_of hk] at this
  omega
/-! ### Lists of tensors that nobody writes -/
def tcD (ts : List Ten) : List AV := (tcs ts).map .d
section
variable {ts : List Ten}
theorem tcD_len : (tcD ts).length = ts.length * 3 := by simp [tcD, tcs_len]
theorem rnL_dmap (ρ : Nat → Option Nat) : ∀ l : List D, rnL ρ (l.map .d) = l.map .d
  | [] => rfl
  | x :: l => by rw [List.map_cons, rnL, rnL_dmap ρ l]; rfl
theorem cellsD_dmap : ∀ l : List D, cellsD (l.map .d) = some l
  | [] => rfl
  | x :: l => by rw [List.map_cons, cellsD, cellsD_dmap l]; rfl
theorem rnL_tcD (ρ : Nat → Option Nat) : rnL ρ (tcD ts) = tcD ts := rnL_dmap ρ _
theorem cellsD_tcD : cellsD (tcD ts) = some (tcs ts) := cellsD_dmap _
theorem tcD_all : (tcD ts).take (ts.length * 3) = tcD ts := List.take_of_length_le (by rw [tcD_len]; exact Nat.le_refl _)
end
attribute [go_sem] tcD_len rnL_tcD cellsD_tcD tcD_all
end Go.Proofs.Ytjoopfojiiklnaa
