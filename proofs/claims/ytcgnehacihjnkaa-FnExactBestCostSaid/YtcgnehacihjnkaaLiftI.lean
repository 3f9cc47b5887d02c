/-
  LIFT: slices at the end of a row. No condition.
-/
import Derived.Test.YtcgnehacihjnkaaLiftH
namespace Go.Lift
open Go.RowKit
theorem rnL_two (ρ : Nat → Option Nat) (a b : List AV) : rnL ρ (a ++ b) = rnL ρ a ++ rnL ρ b := by rw [rnL_eq, rnL_eq, rnL_eq, List.map_append]
theorem dropF_none (m : Nat) : ∀ e : List AV, dropF m [] e = rnL (cut m) e
  | [] => rfl
  | x :: l => by rw [dropF, rnL, dropF_none m l]
attribute [go_sem] rnL_two dropF_none

/-! ### The three slices of a row become roots of their own -/
def noSub (σ : Sto) : Prop := ∀ i j k' n, σ.map (Option.map fun R => { R with cells := mapL (spG i j k' n) R.cells }) = σ
theorem noSub.at {σ : Sto} (h : noSub σ) {k : Nat} {R : Root} (hk : σ[k]? = some (some R)) (i j k' n : Nat) : mapL (spG i j k' n) R.cells = R.cells := by
  have h1 := congrArg (fun l => l[k]?) (h i j k' n)
  simp only [List.getElem?_map, hk, Option.map_some, Option.some.injEq] at h1
  exact congrArg Root.cells h1
theorem noSub.mk {σ : Sto} (h : ∀ (k : Nat) (R : Root), σ[k]? = some (some R) → ∀ i j k' n, mapL (spG i j k' n) R.cells = R.cells) : noSub σ := by
  intro i j k' n
  refine List.ext_getElem? fun k => ?_
  rw [List.getElem?_map]
  cases hk : σ[k]? with
  | none => rfl
  | some x =>
    cases x with
    | none => rfl
    | some R => simp [h k R hk i j k' n]
theorem mapL_two (f : AV → AV) (a b : List AV) : mapL f (a ++ b) = mapL f a ++ mapL f b := by rw [mapL_eq, mapL_eq, mapL_eq, List.map_append]
theorem mapL_cellT (i j k' n : Nat) (l : List D) : mapL (spG i j k' n) (l.map cellT) = l.map cellT := by
  rw [mapL_eq, List.map_map]
  refine List.map_congr_left fun x _ => ?_
  cases x <;> rfl
theorem noSub.split {k j n e : Nat} {l : List D} {σ : Sto} {R : Root} (h : noSub σ) (hk : σ[k]? = some (some R)) : noSub (σ.set k (some { R with cells := R.cells.set j (.own σ.length 0 n) }) ++ [some ⟨e, false, l.map cellT⟩]) := by
  refine noSub.mk fun i Ri hi a b c d => ?_
  by_cases hlt : i < σ.length
  · rw [List.getElem?_append_left (by simpa using hlt), List.getElem?_set] at hi
    by_cases e : k = i
    · subst e
      rw [if_pos rfl, if_pos hlt] at hi
      simp only [Option.some.injEq] at hi
      subst hi
      have h0 := h.at hk a b c d
      simp only [mapL_eq] at h0 ⊢
      rw [List.map_set, h0]
      rfl
    · rw [if_neg e] at hi
      exact h.at hi a b c d
  · by_cases e : i = σ.length
    · subst e
      simp at hi
      subst hi
      exact mapL_cellT _ _ _ _ _
    · rw [List.getElem?_eq_none (by simp; omega)] at hi
      cases hi
end Go.Lift

/-
  LIFT: results that nobody writes any more; rounds' ends seen otherwise. No condition.
-/
namespace Go.Lift
open Go.RowKit
theorem Next.wk {m0 n k : Nat} {E : Nat → List AV} {S : Nat → Sto} {e e' : List AV} {σ σ' : Sto} (h : Wk m0 e σ e' σ') (h' : Next m0 n E S k e' σ') : Next m0 n E S k e σ := by
  obtain ⟨m', e2, σ2, h1, h2, h3⟩ := h'
  exact ⟨m', e2, σ2, h1, h.trans h2, h3⟩
theorem NextI.wk {m0 n k : Nat} {I : Nat → Prop} {E : Nat → List AV} {S : Nat → Sto} {e e' : List AV} {σ σ' : Sto} (h : Wk m0 e σ e' σ') (h' : NextI m0 n I E S k e' σ') : NextI m0 n I E S k e σ := by
  obtain ⟨m', e2, σ2, h1, h2, h3⟩ := h'
  exact ⟨m', e2, σ2, h1, h.trans h2, h3⟩
theorem Does.wk0 {P : Program} {f : FuncId} {args : List AV} {res res' : AV} {σ1 σ1' : Sto} (h : Does P f args [] res σ1) (hw : Wk 0 [res] σ1 [res'] σ1') : Does P f args [] res' σ1' := by
  intro γ φ w vals hS hr
  refine (h γ φ w vals hS hr).mono fun en w' hq => ?_
  obtain ⟨v, γ', φ', rfl, hK, h1, h2, h3⟩ := hq
  obtain ⟨γ2, φ2, hK2, hS2, hE2, _⟩ := hw γ' φ' w' [v] h2 (by simp only [RelL]; exact ⟨_, _, rfl, h3, rfl⟩)
  refine ⟨v, γ2, φ2, rfl, hK.trans hK2, fun k R e => by simp [at_] at e, hS2, ?_⟩
  simp only [RelL] at hE2
  obtain ⟨v', vs', e, hr', rfl⟩ := hE2
  simp only [List.cons.injEq, and_true] at e
  subst e
  exact hr'
theorem at_none1 : at_ [none] = at_ [] := by
  funext k
  cases k <;> simp [at_]
theorem Does.noneS {P : Program} {f : FuncId} {args : List AV} {res : AV} (h : Does P f args [] res [none]) : Does P f args [] res [] := by
  unfold Does at *
  rw [at_none1] at h
  exact h
theorem Does.fz {P : Program} {f : FuncId} {args : List AV} {n e : Nat} {g : Bool} {c : List AV} {ls : List D} (h : Does P f args [] (.own 0 0 n) [some ⟨e, g, c⟩]) (hc : cellsD c = some ls) (hn : ls.length = n * e) : Does P f args [] (.d (.sl n ls)) [] := by
  refine Does.noneS (Does.wk0 h (Wk.freeze 0 (R := ⟨e, g, c⟩) (ls := ls) (Nat.le_refl _) rfl hc ?_ rfl))
  simp only [mapL, mapA, fzG, if_true, List.drop_zero]
  rw [List.take_of_length_le (by rw [hn]; exact Nat.le_refl _)]
theorem Does.fzI {P : Program} {f : FuncId} {args : List AV} {g : Bool} {xs : List Int} (h : Does P f args [] (.own 0 0 xs.length) [some ⟨1, g, iv xs⟩]) : Does P f args [] (.d (ints xs)) [] := Does.fz h cellsD_iv (by rw [dv_len, Nat.mul_one])
theorem Wk.nilD {m0 : Nat} (t : Nat) (e : List AV) (σ : Sto) (h : e[t]? = some .nil) : Wk m0 e σ (e.set t (.d (.sl 0 []))) σ := by
  intro γ φ w vs hS hE
  refine ⟨γ, φ, Kst.refl _ _, hS, RelL.of_get (by have := hE.len; simpa using this) fun i x hx => ?_, fun k R _ hk hg => ⟨Stay.refl, R, hk, hg⟩⟩
  rw [List.getElem?_set] at hx
  split at hx
  · rename_i hti
    subst hti
    split at hx
    · simp only [Option.some.injEq] at hx
      subst hx
      obtain ⟨v, hv, hr⟩ := hE.get h
      refine ⟨v, hv, ?_⟩
      rw [rel_nil hr]
      simp only [Rel]
      unfold Rd
      exact ⟨none, 0, rfl, Nat.le_refl _, .inl ⟨rfl, rfl⟩⟩
    · cases hx
  · exact hE.get hx
end Go.Lift
