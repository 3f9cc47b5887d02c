/-
  LIFT: results that nobody writes any more; rounds' ends seen otherwise. No condition.
-/
import Derived.Test.YtmggkcifakbfeaaLiftI
namespace Go.Lift
open Go.RowKit
theorem Next.wk {m0 n k : Nat} {E : Nat → List AV} {S : Nat → Sto} {e e' : List AV} {σ σ' : Sto} (h : Wk m0 e σ e' σ') (h' : Next m0 n E S k e' σ') : Next m0 n E S k e σ := by
  obtain ⟨m', e2, σ2, h1, h2, h3⟩ := h'
  exact ⟨m', e2, σ2, h1, h.trans h2, h3⟩
theorem NextI.wk {m0 n k : Nat} {I : Nat → Prop} {E : Nat → List AV} {S : Nat → Sto} {e e' : List AV} {σ σ' : Sto} (h : Wk m0 e σ e' σ') (h' : NextI m0 n I E S k e' σ') : NextI m0 n I E S k e σ := by
  obtain ⟨m', e2, σ2, h1, h2, h3⟩ := h'
  exact ⟨m', e2, σ2, h1, h.trans h2, h3⟩
theorem Does.wk0 {P : Program} {f : FuncId} {args : List AV} {res res' : AV} {σ1 σ1' : Sto} (h : Does P f args [] res σ1) (hw : Wk 0 [res] σ1 [res'] σ1') : Does P f args [] res' σ1' := by
  intro γ φ w vals hS hr
  refine (h γ φ w vals hS hr).mono fun en w' hq => ?_
  obtain ⟨v, γ', φ', rfl, hK, h1, h2, h3⟩ := hq
  obtain ⟨γ2, φ2, hK2, hS2, hE2, _⟩ := hw γ' φ' w' [v] h2 (by simp only [RelL]; exact ⟨_, _, rfl, h3, rfl⟩)
  refine ⟨v, γ2, φ2, rfl, hK.trans hK2, fun k R e => by simp [at_] at e, hS2, ?_⟩
  simp only [RelL] at hE2
  obtain ⟨v', vs', e, hr', rfl⟩ := hE2
  simp only [List.cons.injEq, and_true] at e
  subst e
  exact hr'
theorem at_none1 : at_ [none] = at_ [] := by
  funext k
  cases k <;> simp [at_]
theorem Does.noneS {P : Program} {f : FuncId} {args : List AV} {res : AV} (h : Does P f args [] res [none]) : Does P f args [] res [] := by
  unfold Does at *
  rw [at_none1] at h
  exact h
theorem Does.fz {P : Program} {f : FuncId} {args : List AV} {n e : Nat} {g : Bool} {c : List AV} {ls : List D} (h : Does P f args [] (.own 0 0 n) [some ⟨e, g, c⟩]) (hc : cellsD c = some ls) (hn : ls.length = n * e) : Does P f args [] (.d (.sl n ls)) [] := by
  refine Does.noneS (Does.wk0 h (Wk.freeze 0 (R := ⟨e, g, c⟩) (ls := ls) (Nat.le_refl _) rfl hc ?_ rfl))
  simp only [mapL, mapA, fzG, if_true, List.drop_zero]
  rw [List.take_of_length_le (by rw [hn]; exact Nat.le_refl _)]
theorem Does.fzI {P : Program} {f : FuncId} {args : List AV} {g : Bool} {xs : List Int} (h : Does P f args [] (.own 0 0 xs.length) [some ⟨1, g, iv xs⟩]) : Does P f args [] (.d (ints xs)) [] := Does.fz h cellsD_iv (by rw [dv_len, Nat.mul_one])
theorem Wk.nilD {m0 : Nat} (t : Nat) (e : List AV) (σ : Sto) (h : e[t]? = some .nil) : Wk m0 e σ (e.set t (.d (.sl 0 []))) σ := by
  intro γ φ w vs hS hE
  refine ⟨γ, φ, Kst.refl _ _, hS, RelL.of_get (by have := hE.len; simpa using this) fun i x hx => ?_, fun k R _ hk hg => ⟨Stay.refl, R, hk, hg⟩⟩
  rw [List.getElem?_set] at hx
  split at hx
  · rename_i hti
    subst hti
    split at hx
    · simp only [Option.some.injEq] at hx
      subst hx
      obtain ⟨v, hv, hr⟩ := hE.get h
      refine ⟨v, hv, ?_⟩
      rw [rel_nil hr]
      simp only [Rel]
      unfold Rd
      exact ⟨none, 0, rfl, Nat.le_refl _, .inl ⟨rfl, rfl⟩⟩
    · cases hx
  · exact hE.get hx
end Go.Lift
