/-
  Plain: all labels of a state have dimensions. No condition.
-/
import Derived.Test.YtjncdanegoileaaOrdB
import Derived.Test.YtjncdanegoileaaOrdC
namespace Go.Proofs.Ytjncdanegoileaa
open Go.RowKit Go.Lift Plain
set_option linter.unusedSimpArgs false
set_option linter.unusedVariables false
set_option maxRecDepth 100000

/-- All labels have dimensions. -/
def OsT (T : List Int) (s : Osd) : Prop := ∀ i, ∀ x ∈ s.lab i, 1 ≤ atT T x ∧ atT T x ≤ 8
section
variable {T os : List Int} {s : Osd} {m a b : Nat}
theorem OsT.res (h : OsT T s) : ∀ x ∈ s.res os a b, 1 ≤ atT T x ∧ atT T x ≤ 8 := fun x hx =>
  (mem_joinL.1 (List.mem_filter.1 hx).1).elim (h a x) (h b x)
theorem OsT.join (h : OsT T s) : ∀ x ∈ joinL (s.lab a) (s.lab b), 1 ≤ atT T x ∧ atT T x ≤ 8 := fun x hx => (mem_joinL.1 hx).elim (h a x) (h b x)
theorem OsT.step (hs : OsOk s m) (h : OsT T s) : OsT T (s.step os a b) := fun i x hx => by
  rcases Nat.lt_trichotomy i m with hi | rfl | hi
  · rw [lab_step hs hi] at hx; exact h i x hx
  · rw [lab_step_new hs] at hx; exact h.res x hx
  · have : (s.step os a b).lab i = [] := by
      have := (hs.step os a b).n
      unfold Osd.lab
      rw [List.getD_eq_getElem?_getD, List.getElem?_eq_none (by omega)]; rfl
    rw [this] at hx; cases hx
theorem osInit_T {N : Net} (h : netOk N = true) : OsT (dimsR N.ts).1 (osInit N.ts) := fun i x hx => by
  by_cases hi : i < N.ts.length
  · rw [osInit_lab hi] at hx
    have hd := dims_net h (List.getElem_mem hi)
    have : atT (dimsR N.ts).1 x ∈ N.ts[i].dims := by rw [← hd]; exact List.mem_map_of_mem hx
    have := (netOk_ax h _ (List.getElem_mem hi)).dim _ this
    omega
  · have : (osInit N.ts).lab i = [] := by
      unfold Osd.lab
      rw [List.getD_eq_getElem?_getD, List.getElem?_eq_none (by simp [osInit]; omega)]; rfl
    rw [this] at hx; cases hx
theorem capP_bd (L : List Int) (h : ∀ x ∈ L, 1 ≤ atT T x ∧ atT T x ≤ 8) : 1 ≤ capP T L ∧ capP T L ≤ 1000000000 := by
  have := prodI_pos (L.map (atT T)) fun d hd => by obtain ⟨x, hx, rfl⟩ := List.mem_map.1 hd; exact (h x hx).1
  unfold capP
  omega
end
end Go.Proofs.Ytjncdanegoileaa

/-
  Plain: a valid order, step by step. No condition.
-/
namespace Go.Proofs.Ytjncdanegoileaa
open Go.RowKit Go.Lift Plain
set_option linter.unusedSimpArgs false
set_option linter.unusedVariables false
set_option maxRecDepth 100000

/-! ### A valid order, step by step -/
section
variable {N : Net} {n : Nat} {F : List Int}
def stA (F : List Int) (k : Nat) : Nat := (F.getD (k * 2) 0).toNat
def stB (F : List Int) (k : Nat) : Nat := (F.getD (k * 2 + 1) 0).toNat
/-- What is known before step k of a valid order. -/
structure OrdOk (N : Net) (F : List Int) (k : Nat) : Prop where
  ok : OsOk (ordS N F k) (N.ts.length + k)
  t : OsT (dimsR N.ts).1 (ordS N F k)
structure OrdStep (N : Net) (F : List Int) (k : Nat) : Prop where
  a : F.getD (k * 2) 0 = stA F k
  b : F.getD (k * 2 + 1) 0 = stB F k
  ma : stA F k ∈ (ordS N F k).nums
  mb : stB F k ∈ (ordS N F k).nums
  lt : stA F k < stB F k
  nx : ordS N F (k + 1) = (ordS N F k).step N.os (stA F k) (stB F k)
  fol : followB (ordS N F k) (F.getD (k * 2) 0) (F.getD (k * 2 + 1) 0) = true
theorem OrdStep.at {k : Nat} (h : OrdStep N F k) (ho : OrdOk N F k) : stA F k < N.ts.length + k ∧ stB F k < N.ts.length + k := by
  have hn := ho.ok.n
  have h1 := (nums_mem.1 h.ma).1
  have h2 := (nums_mem.1 h.mb).1
  omega
end
end Go.Proofs.Ytjncdanegoileaa
