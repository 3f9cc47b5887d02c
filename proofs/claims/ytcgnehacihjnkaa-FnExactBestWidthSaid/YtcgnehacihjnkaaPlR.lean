/-
  Plain networks with their labels renamed. No condition.
-/
import Derived.Test.YtcgnehacihjnkaaNetE
namespace Go.Proofs.Ytcgnehacihjnkaa
open Go.RowKit Go.Lift Plain
set_option linter.unusedSimpArgs false
set_option linter.unusedVariables false

section
variable {ρ : Int → Int}
theorem dimN_some : ∀ {l : List Ten} {x : Int}, dimN l x ≠ 0 → ∃ t ∈ l, x ∈ t.labels
  | [], _, h => absurd rfl h
  | t :: l, x, h => by
    by_cases hx : x ∈ t.labels
    · exact ⟨t, List.mem_cons_self .., hx⟩
    · rw [dimN, if_neg hx] at h
      obtain ⟨u, hu, hm⟩ := dimN_some h
      exact ⟨u, List.mem_cons_of_mem _ hu, hm⟩
theorem dimN_ne : ∀ {l : List Ten} {x : Int}, axOks l → (∃ t ∈ l, x ∈ t.labels) → dimN l x ≠ 0
  | [], _, _, ⟨_, h, _⟩ => by simp at h
  | t :: l, x, ha, ⟨u, hu, hm⟩ => by
    rw [dimN]
    split
    · rename_i hx
      have := dimAt_bd (ha t (List.mem_cons_self ..)) hx
      omega
    · rename_i hx
      rcases List.mem_cons.1 hu with e | hu
      · exact absurd (e ▸ hm) hx
      · exact dimN_ne (fun t ht => ha t (List.mem_cons_of_mem _ ht)) ⟨u, hu, hm⟩
def inN (N : Net) (x : Int) : Prop := ∃ t ∈ N.ts, x ∈ t.labels
theorem labelsL_in {N : Net} (h : netOk N = true) {x : Int} : x ∈ labelsL N ↔ inN N x := by
  have hax := netOk_ax h
  rw [labelsL, if_pos h]
  constructor
  · intro hx
    obtain ⟨i, _, hp, rfl⟩ := pickTo_mem hx
    unfold labP at hp
    simp only [bne_iff_ne, ne_eq] at hp
    exact dimN_some hp
  · intro hx
    have hne := dimN_ne hax hx
    have hb : 0 ≤ x ∧ x ≤ 99 := by
      by_cases hb : 0 ≤ x ∧ x ≤ 99
      · exact hb
      · exact absurd (dimN_out hax hb) hne
    simp only [pickTo, List.mem_map, List.mem_filter, List.mem_range]
    refine ⟨x.toNat, ⟨by omega, ?_⟩, by omega⟩
    unfold labP
    rw [show ((x.toNat : Nat) : Int) = x by omega]
    simpa using hne
end
end Go.Proofs.Ytcgnehacihjnkaa
