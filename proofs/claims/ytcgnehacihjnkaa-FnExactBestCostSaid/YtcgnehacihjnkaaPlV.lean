/-
  Plain: the best cost over the sets of tensors. No condition.
-/
import Derived.Test.YtcgnehacihjnkaaPlW
namespace Go.Proofs.Ytcgnehacihjnkaa
open Go.RowKit Go.Lift Plain
set_option linter.unusedSimpArgs false
set_option linter.unusedVariables false
set_option maxRecDepth 100000

def lowW (s : Nat) : Nat := s &&& ((18446744073709551616 - s) % 18446744073709551616)
def divW (s a : Nat) : Bool := Nat.beq (a &&& s) a && !Nat.beq (a &&& lowW s) 0
def runT (f : Nat → Int) (W : Nat → Nat → Int) (s : Nat) : Nat → Int × Nat
  | 0 => (1000000001, 0)
  | k + 1 => if divW s k = true then (if min (f k + f (s - k) + W k (s - k)) 1000000000 < (runT f W s k).1 then (min (f k + f (s - k) + W k (s - k)) 1000000000, k) else runT f W s k) else runT f W s k
def toI (p : Int × Nat) : Int × Nat := if p.2 = 0 then (0, 0) else p
def bcT (W : Nat → Nat → Int) : Nat → Nat → Int × Nat
  | 0, _ => (0, 0)
  | n + 1, j => if j = n then toI (runT (fun i => (bcT W n i).1) W n n) else bcT W n j
section
variable {f : Nat → Int} {W : Nat → Nat → Int} {s k n j : Nat}
theorem divW_zero (s : Nat) : divW s 0 = false := by simp [divW]
theorem runT_yes (h : divW s k = true) (hv : min (f k + f (s - k) + W k (s - k)) 1000000000 < (runT f W s k).1) : runT f W s (k + 1) = (min (f k + f (s - k) + W k (s - k)) 1000000000, k) := by rw [runT, if_pos h, if_pos hv]
theorem runT_ge (h : divW s k = true) (hv : ¬ min (f k + f (s - k) + W k (s - k)) 1000000000 < (runT f W s k).1) : runT f W s (k + 1) = runT f W s k := by rw [runT, if_pos h, if_neg hv]
theorem runT_no (h : divW s k = false) : runT f W s (k + 1) = runT f W s k := by rw [runT, if_neg (by rw [h]; decide)]
theorem runT_one : runT f W s 1 = (1000000001, 0) := by rw [runT_no (divW_zero s)]; rfl
theorem div_ne (h : divW s k = true) : k ≠ 0 := fun e => by subst e; rw [divW_zero] at h; cases h
theorem runT_inv (f : Nat → Int) (W : Nat → Nat → Int) (s : Nat) : ∀ k, ((runT f W s k).2 = 0 ∧ (runT f W s k).1 = 1000000001) ∨ ((runT f W s k).2 ≠ 0 ∧ (runT f W s k).1 ≤ 1000000000)
  | 0 => .inl ⟨rfl, rfl⟩
  | k + 1 => by
    have ih := runT_inv f W s k
    cases h : divW s k with
    | false => rw [runT_no h]; exact ih
    | true =>
      by_cases hv : min (f k + f (s - k) + W k (s - k)) 1000000000 < (runT f W s k).1
      · rw [runT_yes h hv]
        exact .inr ⟨div_ne h, by simp only; omega⟩
      · rw [runT_ge h hv]; exact ih
theorem runT_nn (s : Nat) (hf : ∀ i, 0 ≤ f i) (hW : ∀ a b, 0 ≤ W a b) : ∀ k, 0 ≤ (runT f W s k).1
  | 0 => by show (0 : Int) ≤ 1000000001; decide
  | k + 1 => by
    have ih := runT_nn s hf hW k
    have h1 := hf k
    have h2 := hf (s - k)
    have h3 := hW k (s - k)
    rw [runT]
    split
    · split
      · simp only; omega
      · exact ih
    · exact ih
theorem runT_none : ∀ k, (∀ a, a < k → divW s a = false) → runT f W s k = (1000000001, 0)
  | 0, _ => rfl
  | k + 1, h => by rw [runT_no (h k (by omega))]; exact runT_none k fun a ha => h a (by omega)
theorem runT_some (f : Nat → Int) (W : Nat → Nat → Int) {a : Nat} (ha : divW s a = true) : ∀ k, a < k → (runT f W s k).2 ≠ 0
  | 0, h => absurd h (Nat.not_lt_zero a)
  | k + 1, h => by
    by_cases e : a = k
    · subst e
      by_cases hv : min (f a + f (s - a) + W a (s - a)) 1000000000 < (runT f W s a).1
      · rw [runT_yes ha hv]; exact div_ne ha
      · rw [runT_ge ha hv]
        rcases runT_inv f W s a with h | h
        · omega
        · exact h.1
    · have ih := runT_some f W ha k (by omega)
      rw [runT]
      split
      · split
        · rename_i hd _; exact div_ne hd
        · exact ih
      · exact ih
theorem toI_ne {p : Int × Nat} (h : p.2 ≠ 0) : toI p = p := by rw [toI, if_neg h]
theorem toI_yes (h : divW s k = true) (hv : (toI (runT f W s k)).2 = 0 ∨ min (f k + f (s - k) + W k (s - k)) 1000000000 < (toI (runT f W s k)).1) : toI (runT f W s (k + 1)) = (min (f k + f (s - k) + W k (s - k)) 1000000000, k) := by
  have hi := runT_inv f W s k
  have hv' : min (f k + f (s - k) + W k (s - k)) 1000000000 < (runT f W s k).1 := by
    rcases hi with h1 | h1
    · omega
    · rw [toI_ne h1.1] at hv
      rcases hv with h2 | h2
      · exact absurd h2 h1.1
      · exact h2
  rw [runT_yes h hv', toI_ne (div_ne h)]
theorem toI_ge (h : divW s k = true) (hv : ¬ ((toI (runT f W s k)).2 = 0 ∨ min (f k + f (s - k) + W k (s - k)) 1000000000 < (toI (runT f W s k)).1)) : toI (runT f W s (k + 1)) = toI (runT f W s k) := by
  have hi := runT_inv f W s k
  rcases hi with h1 | h1
  · exact absurd (.inl (by rw [toI, if_pos h1.1])) hv
  · rw [toI_ne h1.1] at hv
    rw [runT_ge h fun hh => hv (.inr hh)]
theorem bcT_ge : ∀ n, n ≤ j → bcT W n j = (0, 0)
  | 0, _ => rfl
  | n + 1, h => by rw [bcT, if_neg (by omega)]; exact bcT_ge n (by omega)
theorem bcT_bd (hW : ∀ a b, 0 ≤ W a b) : ∀ n j, 0 ≤ (bcT W n j).1 ∧ (bcT W n j).1 ≤ 1000000000
  | 0, _ => by show (0 : Int) ≤ 0 ∧ (0 : Int) ≤ 1000000000; decide
  | n + 1, j => by
    rw [bcT]
    split
    · rcases runT_inv (fun i => (bcT W n i).1) W n n with h | h
      · rw [toI, if_pos h.1]; exact ⟨by decide, by decide⟩
      · rw [toI_ne h.1]
        exact ⟨runT_nn _ (fun i => (bcT_bd hW n i).1) hW n, h.2⟩
    · exact bcT_bd hW n j
end
/-! ### The sets of at most seven tensors, one by one -/
def chkA : Bool := (List.range 128).all fun s => !Nat.beq s (lowW s) || (List.range s).all fun a => !divW s a
def chkB : Bool := (List.range 128).all fun s => Nat.beq s (lowW s) || (divW s (lowW s) && Nat.blt (lowW s) s)
def chkC : Bool := (List.range 128).all fun s => (List.range s).all fun a => !divW s a || Nat.beq (s &&& (18446744073709551615 - a)) (s - a)
theorem chkA_ok : chkA = true := by decide +kernel
theorem chkB_ok : chkB = true := by decide +kernel
theorem chkC_ok : chkC = true := by decide +kernel
theorem low_none {s : Nat} (hs : s < 128) (h : s = lowW s) : ∀ a, a < s → divW s a = false := fun a ha => by
  have h1 := List.all_eq_true.1 chkA_ok s (List.mem_range.2 hs)
  rw [← h] at h1
  simp only [Nat.beq_refl, Bool.not_true, Bool.false_or, List.all_eq_true, List.mem_range] at h1
  simpa using h1 a ha
theorem low_some {s : Nat} (hs : s < 128) (h : s ≠ lowW s) : divW s (lowW s) = true ∧ lowW s < s := by
  have h1 := List.all_eq_true.1 chkB_ok s (List.mem_range.2 hs)
  have h2 : Nat.beq s (lowW s) = false := by
    cases hb : Nat.beq s (lowW s)
    · rfl
    · exact absurd (Nat.eq_of_beq_eq_true hb) h
  rw [h2, Bool.false_or, Bool.and_eq_true] at h1
  exact ⟨h1.1, by simpa [Nat.blt_eq] using h1.2⟩
theorem sub_bits {s a : Nat} (hs : s < 128) (ha : a < s) (h : divW s a = true) : s &&& (18446744073709551615 - a) = s - a := by
  have h1 := List.all_eq_true.1 (List.all_eq_true.1 chkC_ok s (List.mem_range.2 hs)) a (List.mem_range.2 ha)
  rw [h, Bool.not_true, Bool.false_or] at h1
  exact Nat.eq_of_beq_eq_true h1
end Go.Proofs.Ytcgnehacihjnkaa
