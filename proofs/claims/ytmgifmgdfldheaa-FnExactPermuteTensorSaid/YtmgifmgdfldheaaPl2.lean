/-
  Plain lists: products in a ring. No condition.
-/
import Derived.Test.YtmgifmgdfldheaaPl1
namespace Go.Proofs.Ytmgifmgdfldheaa
open Plain
set_option linter.unusedSimpArgs false
set_option linter.unusedVariables false

/-- One pair of coefficients. -/
def mulAt (r : Rg) (out : List Int) (i j : Nat) (a b : Int) : List Int :=
  if i + j < out.length then out.set (i + j) ((out.getD (i + j) 0 + a * b).tmod r.p)
  else if r.k = 8 then out.set (i + j - 4) ((out.getD (i + j - 4) 0 + (r.p - a) * b).tmod r.p) else out
def mulRowTo (r : Rg) (y : List Int) (i : Nat) (a : Int) (out : List Int) : Nat → List Int
  | 0 => out
  | j + 1 => mulAt r (mulRowTo r y i a out j) i j a (y.getD j 0)
def mulTo (r : Rg) (x y out : List Int) : Nat → List Int
  | 0 => out
  | i + 1 => mulRowTo r y i (x.getD i 0) (mulTo r x y out i) y.length
/-- The same as the program does it. -/
def iMulAt (r : Rg) (out : List Int) (i j : Nat) (a b : Int) : List Int :=
  if i + j < out.length then out.set (i + j) ((out.getD (i + j) 0 + (a * b).tmod r.p).tmod r.p)
  else if r.k = 8 then out.set (i + j - 4) ((out.getD (i + j - 4) 0 + r.p - (a * b).tmod r.p).tmod r.p) else out
def iMulRowTo (r : Rg) (y : List Int) (i : Nat) (a : Int) (out : List Int) : Nat → List Int
  | 0 => out
  | j + 1 => iMulAt r (iMulRowTo r y i a out j) i j a (y.getD j 0)
def iMulTo (r : Rg) (x y out : List Int) : Nat → List Int
  | 0 => out
  | i + 1 => iMulRowTo r y i (x.getD i 0) (iMulTo r x y out i) y.length

/-- All members are below p. -/
def lowP (p : Int) (xs : List Int) : Prop := ∀ k, k < xs.length → 0 ≤ xs.getD k 0 ∧ xs.getD k 0 < p
theorem lowP.at {p : Int} {xs : List Int} (h : lowP p xs) (hp : 0 < p) (k : Nat) : 0 ≤ xs.getD k 0 ∧ xs.getD k 0 < p := by
  by_cases hk : k < xs.length
  · exact h k hk
  · simp [List.getD_eq_getElem?_getD, List.getElem?_eq_none (Nat.le_of_not_lt hk), hp]
theorem lowP.mem {p : Int} {xs : List Int} (h : lowP p xs) : ∀ x ∈ xs, 0 ≤ x ∧ x < p := by
  intro x hx
  obtain ⟨k, hk, rfl⟩ := List.getElem_of_mem hx
  have := h k hk
  simpa [List.getD_eq_getElem?_getD, hk] using this
theorem lowP.set {p : Int} {xs : List Int} {n : Nat} {v : Int} (h : lowP p xs) (hv : 0 ≤ v ∧ v < p) : lowP p (xs.set n v) := by
  intro k hk
  have hk' : k < xs.length := by simpa using hk
  rw [List.getD_eq_getElem?_getD, List.getElem?_set]
  split
  · split
    · simpa using hv
    · simp; omega
  · exact h k hk'
theorem lowP_rep {p : Int} (hp : 0 < p) (n : Nat) : lowP p (List.replicate n 0) := by
  intro k hk
  simp [List.getD_eq_getElem?_getD]
  have : k < n := by simpa using hk
  simp [this, hp]
theorem mul_nn {a b p : Int} (ha : 0 ≤ a ∧ a < p) (hb : 0 ≤ b ∧ b < p) (hp : p ≤ 1000003) : 0 ≤ a * b ∧ a * b ≤ 1000006000009 := by
  refine ⟨Int.mul_nonneg ha.1 hb.1, ?_⟩
  have h1 : a * b ≤ a * 1000003 := Int.mul_le_mul_of_nonneg_left (by omega) ha.1
  omega
theorem tm {a p : Int} (h : 0 ≤ a) : a.tmod p = a % p := Int.tmod_eq_emod_of_nonneg h
theorem tmb {a p : Int} (h : 0 ≤ a) (hp : 0 < p) : 0 ≤ a.tmod p ∧ a.tmod p < p := by
  rw [tm h]; exact ⟨Int.emod_nonneg _ (by omega), Int.emod_lt_of_pos _ hp⟩
theorem mulAt_eq {r : Rg} {out : List Int} {i j : Nat} {a b : Int} (hp : 2 ≤ r.p ∧ r.p ≤ 1000003) (ho : lowP r.p out) (ha : 0 ≤ a ∧ a < r.p) (hb : 0 ≤ b ∧ b < r.p) :
    iMulAt r out i j a b = mulAt r out i j a b ∧ lowP r.p (mulAt r out i j a b) ∧ (mulAt r out i j a b).length = out.length := by
  have hab := mul_nn ha hb hp.2
  have hm := tmb hab.1 (show 0 < r.p by omega)
  have h1 := ho.at (by omega) (i + j)
  have h2 := ho.at (by omega) (i + j - 4)
  have hpa : 0 ≤ (r.p - a) * b := Int.mul_nonneg (by omega) hb.1
  unfold iMulAt mulAt
  refine ⟨?_, ?_, ?_⟩
  · split
    · congr 1
      rw [tm hab.1] at hm ⊢
      rw [tm (show 0 ≤ out.getD (i + j) 0 + a * b % r.p by omega), tm (show 0 ≤ out.getD (i + j) 0 + a * b by omega)]
      rw [Int.add_emod, Int.emod_emod_of_dvd _ (Int.dvd_refl _), ← Int.add_emod]
    · split
      · congr 1
        rw [tm hab.1] at hm ⊢
        rw [tm (show 0 ≤ out.getD (i + j - 4) 0 + r.p - a * b % r.p by omega), tm (show 0 ≤ out.getD (i + j - 4) 0 + (r.p - a) * b by omega)]
        have e : (r.p - a) * b = r.p * b - a * b := Int.sub_mul ..
        rw [e]
        have e1 : out.getD (i + j - 4) 0 + r.p - a * b % r.p = out.getD (i + j - 4) 0 + (r.p - a * b % r.p) := by omega
        have e2 : out.getD (i + j - 4) 0 + (r.p * b - a * b) = (out.getD (i + j - 4) 0 - a * b) + r.p * b := by omega
        rw [e1, e2, Int.add_mul_emod_self_left]
        have e3 : out.getD (i + j - 4) 0 + (r.p - a * b % r.p) = (out.getD (i + j - 4) 0 - a * b % r.p) + r.p * 1 := by omega
        rw [e3, Int.add_mul_emod_self_left, Int.sub_emod, Int.emod_emod_of_dvd _ (Int.dvd_refl _), ← Int.sub_emod]
      · rfl
  · split
    · exact ho.set (tmb (by omega) (by omega))
    · split
      · exact ho.set (tmb (by omega) (by omega))
      · exact ho
  · split
    · simp
    · split <;> simp
theorem mulRowTo_eq {r : Rg} {y out : List Int} {i : Nat} {a : Int} (hp : 2 ≤ r.p ∧ r.p ≤ 1000003) (ho : lowP r.p out) (ha : 0 ≤ a ∧ a < r.p) (hy : lowP r.p y) :
    ∀ j, iMulRowTo r y i a out j = mulRowTo r y i a out j ∧ lowP r.p (mulRowTo r y i a out j) ∧ (mulRowTo r y i a out j).length = out.length
  | 0 => ⟨rfl, ho, rfl⟩
  | j + 1 => by
    obtain ⟨h1, h2, h3⟩ := mulRowTo_eq hp ho ha hy j
    obtain ⟨h4, h5, h6⟩ := mulAt_eq (i := i) (j := j) hp h2 ha (hy.at (by omega) j)
    refine ⟨?_, h5, h6.trans h3⟩
    rw [iMulRowTo, h1, h4]; rfl
theorem mulTo_eq {r : Rg} {x y out : List Int} (hp : 2 ≤ r.p ∧ r.p ≤ 1000003) (ho : lowP r.p out) (hx : lowP r.p x) (hy : lowP r.p y) :
    ∀ i, iMulTo r x y out i = mulTo r x y out i ∧ lowP r.p (mulTo r x y out i) ∧ (mulTo r x y out i).length = out.length
  | 0 => ⟨rfl, ho, rfl⟩
  | i + 1 => by
    obtain ⟨h1, h2, h3⟩ := mulTo_eq hp ho hx hy i
    obtain ⟨h4, h5, h6⟩ := mulRowTo_eq (i := i) hp h2 (hx.at (by omega) i) hy y.length
    refine ⟨?_, h5, h6.trans h3⟩
    rw [iMulTo, h1, h4]; rfl

/-- The bits of both, as the machine has it. -/
def andI (a b : Int) : Int := IntKind.i64.wrap (BitVec.ofInt 64 a &&& BitVec.ofInt 64 b).toNat
def orI (a b : Int) : Int := IntKind.i64.wrap (BitVec.ofInt 64 a ||| BitVec.ofInt 64 b).toNat
def polyK (r : Rg) : Bool := decide (r.k = 7 ∨ r.k = 8)
/-- The product of two elements. -/
def mulE (r : Rg) (x y : List Int) : List Int :=
  if r.k = 1 ∨ r.k = 5 then [min (x.getD 0 0) (y.getD 0 0)]
  else if r.k = 2 then [(x.getD 0 0 * y.getD 0 0).tmod r.p]
  else if r.k = 3 then [min (x.getD 0 0 * y.getD 0 0) r.p]
  else if r.k = 4 then [min (x.getD 0 0 + y.getD 0 0) r.p]
  else if r.k = 6 then [andI (x.getD 0 0) (y.getD 0 0)]
  else mulTo r x y (List.replicate x.length 0) x.length
theorem wrap_bd (x : Int) : I64 (IntKind.i64.wrap x) := by
  rw [IntKind.wrap_i64]; constructor <;> omega
theorem and_bit {a b : Int} (ha : 0 ≤ a ∧ a ≤ 1) (hb : 0 ≤ b ∧ b ≤ 1) : andI a b = min a b := by
  have h1 : a = 0 ∨ a = 1 := by omega
  have h2 : b = 0 ∨ b = 1 := by omega
  rcases h1 with rfl | rfl <;> rcases h2 with rfl | rfl <;> decide
theorem or_bit {a b : Int} (ha : 0 ≤ a ∧ a ≤ 1) (hb : 0 ≤ b ∧ b ≤ 1) : orI a b = max a b := by
  have h1 : a = 0 ∨ a = 1 := by omega
  have h2 : b = 0 ∨ b = 1 := by omega
  rcases h1 with rfl | rfl <;> rcases h2 with rfl | rfl <;> decide
/-- What is known of an element that is right. -/
theorem elem_low {r : Rg} {x : List Int} (hr : ringOk r = true) (h : fits r x) (hk : r.k = 2 ∨ r.k = 7 ∨ r.k = 8) : lowP r.p x ∧ 2 ≤ r.p ∧ r.p ≤ 1000003 := by
  have ht : top r = r.p - 1 := by unfold top; rw [if_neg (by omega), if_neg (by omega), if_neg (by omega)]
  have hp : 2 ≤ r.p ∧ r.p ≤ 1000003 := by rcases ringOk_cases hr with h | h | h | h | h | h | h | h <;> first | omega | exact isPrime_bd h.2.1
  exact ⟨fun k hk => by have := h k hk; omega, hp⟩
theorem elem_wd1 {r : Rg} (hr : ringOk r = true) (hk : ¬ (r.k = 7 ∨ r.k = 8)) : width r = 1 := by
  unfold width
  rw [if_neg (by omega), if_neg (by omega)]
theorem mulE_facts {r : Rg} {x y : List Int} {wd : Nat} (hr : ringOk r = true) (hw : width r = wd) (hx : fits r x) (hy : fits r y) (lx : x.length = wd) (ly : y.length = wd) : (mulE r x y).length = wd ∧ ∀ z ∈ mulE r x y, I64 z := by
  have hwb := width_bd hr
  have htb := top_bd hr
  have x0 := hx 0 (by omega)
  have y0 := hy 0 (by omega)
  unfold mulE
  by_cases h7 : r.k = 7 ∨ r.k = 8
  · rw [if_neg (by omega), if_neg (by omega), if_neg (by omega), if_neg (by omega), if_neg (by omega)]
    obtain ⟨hlx, hp⟩ := elem_low hr hx (by omega)
    obtain ⟨hly, _⟩ := elem_low hr hy (by omega)
    obtain ⟨_, h1, h2⟩ := mulTo_eq hp (lowP_rep (by omega) x.length) hlx hly x.length
    refine ⟨by rw [h2]; simpa using lx, fun z hz => ?_⟩
    have := h1.mem z hz
    exact ⟨by omega, by omega⟩
  · have hw1 := elem_wd1 hr h7
    have hwd : wd = 1 := by omega
    subst hwd
    have hmm : 0 ≤ x.getD 0 0 * y.getD 0 0 := Int.mul_nonneg x0.1 y0.1
    have hmb : x.getD 0 0 * y.getD 0 0 ≤ x.getD 0 0 * 1048576 := Int.mul_le_mul_of_nonneg_left (by omega) x0.1
    split
    · exact ⟨rfl, fun z hz => by simp only [List.mem_singleton] at hz; subst hz; exact ⟨by omega, by omega⟩⟩
    · split
      · refine ⟨rfl, fun z hz => ?_⟩
        simp only [List.mem_singleton] at hz
        obtain ⟨_, hp⟩ := elem_low hr hx (by omega)
        have := tmb hmm (show 0 < r.p by omega)
        subst hz
        exact ⟨by omega, by omega⟩
      · have hp : r.k = 3 ∨ r.k = 4 → 1 ≤ r.p ∧ r.p ≤ 1000000 := fun h => by rcases ringOk_cases hr with h | h | h | h | h | h | h | h <;> omega
        split
        · refine ⟨rfl, fun z hz => ?_⟩
          simp only [List.mem_singleton] at hz
          have := hp (.inl (by assumption))
          subst hz
          exact ⟨by omega, by omega⟩
        · split
          · refine ⟨rfl, fun z hz => ?_⟩
            simp only [List.mem_singleton] at hz
            have := hp (.inr (by assumption))
            subst hz
            exact ⟨by omega, by omega⟩
          · rw [if_pos (by rcases ringOk_cases hr with h | h | h | h | h | h | h | h <;> omega)]
            refine ⟨rfl, fun z hz => ?_⟩
            simp only [List.mem_singleton] at hz
            subst hz
            exact wrap_bd _
end Go.Proofs.Ytmgifmgdfldheaa
