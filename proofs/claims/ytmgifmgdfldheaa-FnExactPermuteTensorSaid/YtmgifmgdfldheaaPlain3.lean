/-
  Plain facts on rings; no program in sight. No condition.
-/
import Derived.Test.YtmgifmgdfldheaaPlain
namespace Go.Proofs.Ytmgifmgdfldheaa.Plain

/-! ### Primes -/
def isPrime (n : Int) : Bool := decide (2 ≤ n ∧ n ≤ 1000003 ∧ ∀ d : Nat, d < 1001 → 2 ≤ d → (d : Int) * d ≤ n → n % d ≠ 0)
theorem isPrime_lo {n : Int} (h : n < 2) : isPrime n = false := decide_eq_false (fun x => by omega)
theorem isPrime_hi {n : Int} (h : 1000003 < n) : isPrime n = false := decide_eq_false (fun x => by omega)
theorem sq_le {d : Nat} {n : Int} (h : (d : Int) * d ≤ n) (hn : n ≤ 1000003) : d ≤ 1000 := by
  rcases Nat.lt_or_ge 1000 d with h1 | h1
  · have h2 : 1001 * 1001 ≤ d * d := Nat.mul_le_mul h1 h1
    have h3 : ((d * d : Nat) : Int) = (d : Int) * d := by simp
    omega
  · exact h1
theorem isPrime_div {n : Int} {d : Nat} (h2 : 2 ≤ d) (h3 : (d : Int) * d ≤ n) (h4 : n ≤ 1000003) (h5 : n % d = 0) : isPrime n = false :=
  decide_eq_false (fun x => x.2.2 d (by have := sq_le h3 h4; omega) h2 h3 h5)
theorem isPrime_yes {n : Int} {k : Nat} (h1 : 2 ≤ n) (h2 : n ≤ 1000003) (h3 : ∀ d : Nat, 2 ≤ d → d < k → n % d ≠ 0) (h4 : n < (k : Int) * k) : isPrime n = true := by
  refine decide_eq_true ⟨h1, h2, fun d _ hd2 hdn => h3 d hd2 ?_⟩
  rcases Nat.lt_or_ge d k with h | h
  · exact h
  · have h5 : k * k ≤ d * d := Nat.mul_le_mul h h
    have h6 : ((d * d : Nat) : Int) = (d : Int) * d := by simp
    have h7 : ((k * k : Nat) : Int) = (k : Int) * k := by simp
    omega
theorem sq_bd {k : Nat} (h : k ≤ 1001) : 0 ≤ (k : Int) * k ∧ (k : Int) * k ≤ 1002001 := by
  have h1 : k * k ≤ 1001 * 1001 := Nat.mul_le_mul h h
  have h2 : ((k * k : Nat) : Int) = (k : Int) * k := by simp
  omega
theorem isPrime_bd {n : Int} (h : isPrime n = true) : 2 ≤ n ∧ n ≤ 1000003 := by
  have := of_decide_eq_true h
  exact ⟨this.1, this.2.1⟩

/-! ### Rings -/
structure Rg where
  k : Int
  p : Int
  n : Int
def ringOk (r : Rg) : Bool :=
  if r.k = 1 then decide (r.p = 0 ∧ r.n = 0)
  else if r.k = 2 then isPrime r.p && decide (r.n = 0)
  else if r.k = 3 ∨ r.k = 4 ∨ r.k = 5 then decide (1 ≤ r.p ∧ r.p ≤ 1000000 ∧ r.n = 0)
  else if r.k = 6 then decide (r.p = 0 ∧ 1 ≤ r.n ∧ r.n ≤ 20)
  else if r.k = 7 then isPrime r.p && decide (1 ≤ r.n ∧ r.n ≤ 6)
  else if r.k = 8 then isPrime r.p && decide (r.p ≠ 2 ∧ r.n = 0)
  else false
def width (r : Rg) : Int := if r.k = 7 then r.n else if r.k = 8 then 4 else 1
def top (r : Rg) : Int := if r.k = 1 then 1 else if r.k = 3 ∨ r.k = 4 ∨ r.k = 5 then r.p else if r.k = 6 then 2 ^ r.n.toNat - 1 else r.p - 1
/-- What is known of a ring that is right: its kind and its numbers. -/
theorem ringOk_cases {r : Rg} (h : ringOk r = true) :
    (r.k = 1 ∧ r.p = 0 ∧ r.n = 0) ∨ (r.k = 2 ∧ isPrime r.p = true ∧ r.n = 0) ∨ (r.k = 3 ∧ 1 ≤ r.p ∧ r.p ≤ 1000000 ∧ r.n = 0) ∨ (r.k = 4 ∧ 1 ≤ r.p ∧ r.p ≤ 1000000 ∧ r.n = 0) ∨
    (r.k = 5 ∧ 1 ≤ r.p ∧ r.p ≤ 1000000 ∧ r.n = 0) ∨ (r.k = 6 ∧ r.p = 0 ∧ 1 ≤ r.n ∧ r.n ≤ 20) ∨ (r.k = 7 ∧ isPrime r.p = true ∧ 1 ≤ r.n ∧ r.n ≤ 6) ∨ (r.k = 8 ∧ isPrime r.p = true ∧ r.p ≠ 2 ∧ r.n = 0) := by
  unfold ringOk at h
  split at h
  · simp at h; omega
  · split at h
    · simp at h; exact .inr (.inl ⟨by assumption, h⟩)
    · split at h
      · simp at h; omega
      · split at h
        · simp at h; omega
        · split at h
          · simp at h; exact .inr (.inr (.inr (.inr (.inr (.inr (.inl ⟨by assumption, h⟩))))))
          · split at h
            · simp at h; exact .inr (.inr (.inr (.inr (.inr (.inr (.inr ⟨by assumption, h⟩))))))
            · cases h
theorem width_bd {r : Rg} (h : ringOk r = true) : 1 ≤ width r ∧ width r ≤ 6 := by
  unfold width
  rcases ringOk_cases h with h | h | h | h | h | h | h | h <;> (split <;> (try split) <;> omega)
theorem pow_bd {n : Int} (h1 : 1 ≤ n) (h2 : n ≤ 20) : 2 ≤ (2 : Int) ^ n.toNat ∧ (2 : Int) ^ n.toNat ≤ 1048576 := by
  obtain ⟨m, rfl⟩ : ∃ m : Nat, n = (m : Int) := ⟨n.toNat, by omega⟩
  rw [Int.toNat_natCast]
  have a : 2 ^ 1 ≤ 2 ^ m := Nat.pow_le_pow_right (by omega) (by omega)
  have b : 2 ^ m ≤ 2 ^ 20 := Nat.pow_le_pow_right (by omega) (by omega)
  have c : ((2 ^ m : Nat) : Int) = (2 : Int) ^ m := by simp
  omega
theorem top_bd {r : Rg} (h : ringOk r = true) : 1 ≤ top r ∧ top r ≤ 1048576 := by
  unfold top
  rcases ringOk_cases h with h | h | h | h | h | h | h | h
  · rw [if_pos h.1]; omega
  · have := isPrime_bd h.2.1; rw [if_neg (by omega), if_neg (by omega), if_neg (by omega)]; omega
  · rw [if_neg (by omega), if_pos (by omega)]; omega
  · rw [if_neg (by omega), if_pos (by omega)]; omega
  · rw [if_neg (by omega), if_pos (by omega)]; omega
  · have := pow_bd h.2.2.1 h.2.2.2; rw [if_neg (by omega), if_neg (by omega), if_pos (by omega)]; omega
  · have := isPrime_bd h.2.1; rw [if_neg (by omega), if_neg (by omega), if_neg (by omega)]; omega
  · have := isPrime_bd h.2.1; rw [if_neg (by omega), if_neg (by omega), if_neg (by omega)]; omega

/-- All numbers fit the ring. -/
def fits (r : Rg) (xs : List Int) : Prop := ∀ k, k < xs.length → 0 ≤ xs.getD k 0 ∧ xs.getD k 0 ≤ top r
instance (r : Rg) (xs : List Int) : Decidable (fits r xs) := by unfold fits; infer_instance
def fitsB (r : Rg) (xs : List Int) : Bool := decide (fits r xs)
theorem fitsB_no {r : Rg} {xs : List Int} (k : Nat) (hk : k < xs.length) (h : ¬ (0 ≤ xs.getD k 0 ∧ xs.getD k 0 ≤ top r)) : fitsB r xs = false := decide_eq_false (fun x => h (x k hk))
theorem fitsB_yes {r : Rg} {xs : List Int} (h : ∀ k, k < xs.length → 0 ≤ xs.getD k 0 ∧ xs.getD k 0 ≤ top r) : fitsB r xs = true := decide_eq_true h
def elemOk (r : Rg) (xs : List Int) : Bool := ringOk r && decide ((xs.length : Int) = width r) && fitsB r xs
def tensorOk (r : Rg) (ls ds xs : List Int) : Bool := ringOk r && decide (tsize ls ds ≠ -1 ∧ (xs.length : Int) = tsize ls ds * width r) && fitsB r xs

end Go.Proofs.Ytmgifmgdfldheaa.Plain
