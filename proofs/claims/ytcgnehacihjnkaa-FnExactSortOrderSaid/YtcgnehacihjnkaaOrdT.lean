/-
  Plain: all labels of a state have dimensions. No condition.
-/
import Derived.Test.YtcgnehacihjnkaaOrdB
import Derived.Test.YtcgnehacihjnkaaOrdC
namespace Go.Proofs.Ytcgnehacihjnkaa
open Go.RowKit Go.Lift Plain
set_option linter.unusedSimpArgs false
set_option linter.unusedVariables false
set_option maxRecDepth 100000

/-- All labels have dimensions. -/
def OsT (T : List Int) (s : Osd) : Prop := ∀ i, ∀ x ∈ s.lab i, 1 ≤ atT T x ∧ atT T x ≤ 8
section
variable {T os : List Int} {s : Osd} {m a b : Nat}
theorem OsT.res (h : OsT T s) : ∀ x ∈ s.res os a b, 1 ≤ atT T x ∧ atT T x ≤ 8 := fun x hx =>
  (mem_joinL.1 (List.mem_filter.1 hx).1).elim (h a x) (h b x)
theorem OsT.join (h : OsT T s) : ∀ x ∈ joinL (s.lab a) (s.lab b), 1 ≤ atT T x ∧ atT T x ≤ 8 := fun x hx => (mem_joinL.1 hx).elim (h a x) (h b x)
theorem OsT.step (hs : OsOk s m) (h : OsT T s) : OsT T (s.step os a b) := fun i x hx => by
  rcases Nat.lt_trichotomy i m with hi | rfl | hi
  · rw [lab_step hs hi] at hx; exact h i x hx
  · rw [lab_step_new hs] at hx; exact h.res x hx
  · have : (s.step os a b).lab i = [] := by
      have := (hs.step os a b).n
      unfold Osd.lab
      rw [List.getD_eq_getElem?_getD, List.getElem?_eq_none (by omega)]; rfl
    rw [this] at hx; cases hx
theorem osInit_T {N : Net} (h : netOk N = true) : OsT (dimsR N.ts).1 (osInit N.ts) := fun i x hx => by
  by_cases hi : i < N.ts.length
  · rw [osInit_lab hi] at hx
    have hd := dims_net h (List.getElem_mem hi)
    have : atT (dimsR N.ts).1 x ∈ N.ts[i].dims := by rw [← hd]; exact List.mem_map_of_mem hx
    have := (netOk_ax h _ (List.getElem_mem hi)).dim _ this
    omega
  · have : (osInit N.ts).lab i = [] := by
      unfold Osd.lab
      rw [List.getD_eq_getElem?_getD, List.getElem?_eq_none (by simp [osInit]; omega)]; rfl
    rw [this] at hx; cases hx
end
end Go.Proofs.Ytcgnehacihjnkaa
