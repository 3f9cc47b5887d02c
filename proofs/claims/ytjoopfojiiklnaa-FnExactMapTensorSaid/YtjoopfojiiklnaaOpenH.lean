/-
  A homomorphism among the arguments, opened; images of tensors have 64-bit elements. No condition.
-/
import Derived.Test.YtjoopfojiiklnaaHomC
import Derived.Test.YtjoopfojiiklnaaHandA
namespace Go.Proofs.Ytjoopfojiiklnaa
open Go.RowKit Go.Lift Go.ChangeShapes Go.WideShapes Plain
set_option linter.unusedSimpArgs false
set_option linter.unusedVariables false
set_option maxRecDepth 100000

section
variable {H : Type} {enc : TypeId × Value → H} {w : World} {base : Nat} {held : Bool} {r : Reach}
theorem open_hom {b0 : Nat} {v : Value} {d : DataW H} {p : List MemPlace} (hv : Value.okWide Try.prog w r b0 57 v) (h : DataW.Trod enc Try.prog w base (fun _ => true) held 57 v d p) :
    ∃ k a, v = .agg #[.int .i64 k, .int .i64 a] ∧ I64 k ∧ I64 a := by
  obtain ⟨v0, v1, y0, y1, m, rfl, _, _, h0, h1⟩ := Joins.open_agg2 Try.underlying57 (by kernel_rfl) (by kernel_rfl) hv h
  obtain ⟨a, e0, _, w0⟩ := DataW.trod_int Try.underlying3 h0
  obtain ⟨b, e1, _, w1⟩ := DataW.trod_int Try.underlying3 h1
  simp at e0 e1
  subst e0 e1
  exact ⟨a, b, rfl, I64.of_wf w0, I64.of_wf w1⟩
theorem hom_rel (k a : Int) : Rel w (topL w) id (at_ []) (homA k a) (.agg #[.int .i64 k, .int .i64 a]) := by
  simp only [homA, Rel, RelL, Rd]
  exact ⟨_, rfl, _, _, rfl, rfl, _, _, rfl, rfl, rfl⟩
end
section
variable {kf pf nf kt pt nt k a : Int}
theorem homE_wf {x : List Int} (hO : homOk kf pf nf kt pt nt k a = true) (hp : I64 pt) (fx : ∀ y ∈ x, I64 y) (h1 : 1 ≤ x.length) (hx : k = 6 → x.length = 4 ∧ ∀ y ∈ x, 0 ≤ y ∧ y ≤ 1000003) : ∀ y ∈ homE kf pf kt pt nt k a x, I64 y := by
  obtain ⟨hf, ht, hc⟩ := homOk_is hO
  have ht0 := top_bd ht
  have hx0 : I64 (x.getD 0 0) := fx _ (by rw [getD_of (show 0 < x.length by omega)]; exact List.getElem_mem _)
  have hb : ∀ (b : Bool), ∀ y ∈ bitE b, I64 y := fun b y hy => by
    simp only [bitE, List.mem_singleton] at hy
    subst hy
    cases b <;> exact ⟨by simp, by simp⟩
  intro y hy
  unfold homE at hy
  split at hy
  · exact hb _ y hy
  split at hy
  · exact hb _ y hy
  split at hy
  · exact hb _ y hy
  split at hy
  · simp only [List.mem_singleton] at hy; subst hy; exact hx0
  split at hy
  · rename_i h6
    subst h6
    have hkf : kf = 8 ∧ 1 ≤ a ∧ a ≤ pf - 1 := by
      rcases hc with h | h | h | h | h | h | h | h
      · omega
      · omega
      · omega
      · omega
      · omega
      · exact h.2
      · omega
      · omega
    obtain ⟨rfl, ha⟩ := hkf
    have hpb := ring_prime hf (Or.inr (Or.inr rfl))
    obtain ⟨hl, hv⟩ := hx rfl
    have := horn_bd hpb ha hv hl 4 (Nat.le_refl _)
    simp only [List.mem_singleton] at hy
    subst hy
    exact ⟨by omega, by omega⟩
  split at hy
  · split at hy
    · exact fx y (List.mem_of_mem_take hy)
    split at hy
    · simp only [List.mem_singleton] at hy; subst hy; exact wrap_bd _
    · simp only [List.mem_singleton] at hy; subst hy
      have := hx0.1; have := hx0.2; have := hp.1; have := hp.2
      exact ⟨by omega, by omega⟩
  split at hy
  · split at hy
    · simp only [List.mem_singleton] at hy; subst hy
      split
      · exact ⟨by omega, by omega⟩
      · exact ⟨by omega, by omega⟩
    · unfold zeroE at hy
      split at hy
      · simp only [List.replicate, List.set_cons_zero, List.mem_singleton] at hy; subst hy; exact hp
      · simp only [List.replicate, List.mem_singleton] at hy; subst hy; exact ⟨by omega, by omega⟩
  · exact fx y hy
theorem mapT_sz {t : Ten} (hp : I64 pt) (h : TSz 1048576 t) : TSz 1048576 (mapT kf pf nf kt pt nt k a t) := by
  unfold mapT
  split
  · rename_i ho
    simp only [mapOk, Bool.and_eq_true] at ho
    obtain ⟨hO, hT⟩ := ho
    obtain ⟨wd, n, hw, hpr, hw1, hw6, hn1, hn2, hlen, hfit, hring, hax⟩ := ten_facts hT
    rw [hw, hpr, Int.toNat_natCast, Int.toNat_natCast]
    have hl := mapTo_len (kf := kf) (pf := pf) (kt := kt) (pt := pt) (nt := nt) (k := k) (a := a) (xs := t.data) hw6 n
    refine ⟨h.l, h.d, ⟨by simp only; omega, ?_⟩⟩
    have : ∀ m, m ≤ n → ∀ y ∈ mapTo kf pf kt pt nt k a wd t.data m, I64 y := by
      intro m
      induction m with
      | zero => intro _ y hy; cases hy
      | succ m ih =>
        intro hm y hy
        rw [mapTo, List.mem_append] at hy
        rcases hy with hy | hy
        · exact ih (by omega) y hy
        · have hcl := cutE_len (x := t.data) (wd := wd) (n := n) (k := m) hlen (by omega)
          have hcf : fits ⟨kf, pf, nf⟩ (cutE t.data wd m) := fits_cutE hfit wd m
          refine homE_wf hO hp (fun z hz => ?_) (by omega) (fun h6 => ?_) y hy
          · have h1 := fits_mem hcf z hz
            have h2 := top_bd hring
            exact ⟨by omega, by omega⟩
          · subst h6
            have hkf : kf = 8 := by
              rcases (homOk_is hO).cs with h | h | h | h | h | h | h | h
              · omega
              · omega
              · omega
              · omega
              · omega
              · exact h.2.1
              · omega
              · omega
            subst hkf
            have e : width ⟨8, pf, nf⟩ = 4 := rfl
            exact ⟨by omega, (hom_horn hring hcf).2⟩
    exact this n (Nat.le_refl _)
  · exact ⟨⟨by simp, by simp⟩, ⟨by simp, by simp⟩, ⟨by simp, by simp⟩⟩
end
end Go.Proofs.Ytjoopfojiiklnaa
