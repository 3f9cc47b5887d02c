/-
  Plain: decompositions: bags, homes, tops. No condition.
-/
import Derived.Test.YtcgnehacihjnkaaEliA
import Derived.Test.YtcgnehacihjnkaaNetE
namespace Go.Proofs.Ytcgnehacihjnkaa
open Go.RowKit Go.Lift Plain
set_option linter.unusedSimpArgs false
set_option linter.unusedVariables false
set_option maxRecDepth 100000

/-- All elements of a are in b. -/
def allL (a b : List Int) : Bool := decide (∀ x ∈ a, x ∈ b)
/-- The first bag that contains labels, -1 if there is none. -/
def homeI (B : List (List Int)) (l : List Int) : Int := match B.findIdx? (allL l) with
  | some k => (k : Int)
  | none => -1
theorem getL_of {L : List (List Int)} {k : Nat} (h : k < L.length) : L.getD k [] = L[k] := by simp [List.getD_eq_getElem?_getD, List.getElem?_eq_getElem h]
section
variable {B : List (List Int)} {P : List Int} {ts : List Ten} {l : List Int} {x : Int} {n k : Nat}
theorem homeI_hit (hk : k < B.length) (h : allL l B[k] = true) (hb : ∀ j (hj : j < B.length), j < k → allL l B[j] = false) : homeI B l = k := by
  have : B.findIdx? (allL l) = some k := by
    rw [List.findIdx?_eq_some_iff_getElem]
    exact ⟨hk, h, fun j hj => by rw [hb j (by omega) hj]; decide⟩
  rw [homeI, this]
theorem homeI_none (hb : ∀ j (hj : j < B.length), allL l B[j] = false) : homeI B l = -1 := by
  have : B.findIdx? (allL l) = none := by
    rw [List.findIdx?_eq_none_iff]
    intro b hb'
    obtain ⟨j, hj, rfl⟩ := List.mem_iff_getElem.1 hb'
    exact hb j hj
  rw [homeI, this]
/-- A bag contains the labels. -/
def Home (B : List (List Int)) (l : List Int) : Prop := ∃ k, ∃ hk : k < B.length, allL l B[k] = true
theorem homeI_yes (h : ¬ homeI B l < 0) : Home B l := by
  unfold homeI at h
  cases hf : B.findIdx? (allL l) with
  | none => rw [hf] at h; exact absurd (by simp) h
  | some k =>
    rw [List.findIdx?_eq_some_iff_getElem] at hf
    exact ⟨k, hf.1, hf.2.1⟩
theorem homeI_no (h : homeI B l < 0) : ¬ Home B l := fun ⟨k, hk, hh⟩ => by
  unfold homeI at h
  cases hf : B.findIdx? (allL l) with
  | none =>
    rw [List.findIdx?_eq_none_iff] at hf
    have := hf _ (List.getElem_mem hk)
    rw [hh] at this
    cases this
  | some k => rw [hf] at h; simp only at h; omega
/-- A bag's parent is before it. -/
def PrOk (P : List Int) (i : Nat) : Prop := (i = 0 → P.getD 0 0 = -1) ∧ (0 < i → 0 ≤ P.getD i 0 ∧ P.getD i 0 < i)
/-- A bag's labels occur and go up. -/
def BgOk (ts : List Ten) (b : List Int) : Prop := ∀ i (h : i < b.length), dimN ts b[i] ≠ 0 ∧ (0 < i → b.getD (i - 1) 0 < b[i])
def BagsOk (ts : List Ten) (B : List (List Int)) (P : List Int) : Prop := (1 ≤ B.length ∧ B.length ≤ 40) ∧ P.length = B.length ∧ ∀ i (h : i < B.length), PrOk P i ∧ BgOk ts B[i]
/-- A bag holds x and its parent doesn't. -/
def topB (B : List (List Int)) (P : List Int) (x : Int) (i : Nat) : Bool := has (B.getD i []) x && (decide (i = 0) || !has (B.getD (P.getD i 0).toNat []) x)
def topsTo (B : List (List Int)) (P : List Int) (x : Int) : Nat → Nat
  | 0 => 0
  | k + 1 => topsTo B P x k + (if topB B P x k = true then 1 else 0)
theorem topsTo_le (k : Nat) : topsTo B P x k ≤ k := by
  induction k with
  | zero => exact Nat.le_refl 0
  | succ k ih => rw [topsTo]; split <;> omega
theorem topsTo_yes (h : topB B P x k = true) : topsTo B P x (k + 1) = topsTo B P x k + 1 := by rw [topsTo, if_pos h]
theorem topsTo_no (h : topB B P x k = false) : topsTo B P x (k + 1) = topsTo B P x k := by rw [topsTo, if_neg (by rw [h]; decide), Nat.add_zero]
theorem topsTo_pos {j : Nat} (h : topB B P x j = true) : ∀ n, j < n → 1 ≤ topsTo B P x n
  | 0, hj => absurd hj (Nat.not_lt_zero j)
  | n + 1, hj => by
    by_cases e : j = n
    · subst e
      rw [topsTo_yes h]
      omega
    · have := topsTo_pos h n (by omega)
      rw [topsTo]
      omega
/-- A label that a bag holds has a top. -/
theorem tops_pos (hP : ∀ i, i < B.length → PrOk P i) : ∀ k (hk : k < B.length), x ∈ B[k] → 1 ≤ topsTo B P x B.length := by
  intro k
  induction k using Nat.strongRecOn with
  | _ k ih =>
    intro hk hx
    cases ht : topB B P x k with
    | true => exact topsTo_pos ht _ hk
    | false =>
      have hp := (hP k hk).2
      have e1 : B.getD k [] = B[k] := getL_of hk
      have h1 : has B[k] x = true := has_true.2 hx
      unfold topB at ht
      rw [e1, h1, Bool.true_and, Bool.or_eq_false_iff] at ht
      have h0 : k ≠ 0 := by simpa using ht.1
      have hb := hp (by omega)
      have hl : (P.getD k 0).toNat < k := by omega
      have e2 : B.getD (P.getD k 0).toNat [] = B[(P.getD k 0).toNat] := getL_of (by omega)
      rw [e2] at ht
      exact ih _ hl (by omega) (has_true.1 (by simpa using ht.2))
theorem labP_mem (hax : axOks ts) : x ∈ pickTo (labP ts) 100 ↔ dimN ts x ≠ 0 := by
  constructor
  · intro h
    obtain ⟨i, _, h2, rfl⟩ := pickTo_mem h
    simpa [labP] using h2
  · intro h
    have hx : 0 ≤ x ∧ x ≤ 99 := by
      by_cases hc : 0 ≤ x ∧ x ≤ 99
      · exact hc
      · exact absurd (dimN_out hax hc) h
    simp only [pickTo, List.mem_map, List.mem_filter, List.mem_range]
    refine ⟨x.toNat, ⟨by omega, ?_⟩, by omega⟩
    have : ((x.toNat : Nat) : Int) = x := by omega
    simpa [labP, this] using h
theorem labP_ten (h : dimN ts x ≠ 0) : ∃ t ∈ ts, x ∈ t.labels := by
  by_cases hc : ∃ t ∈ ts, x ∈ t.labels
  · exact hc
  · exact absurd (dimN_none fun t ht hx => hc ⟨t, ht, hx⟩) h
end
/-- A decomposition is valid for a network. -/
def DecOk (N : Net) (B : List (List Int)) (P : List Int) : Prop := netOk N = true ∧ BagsOk N.ts B P ∧ allL N.os (B.getD 0 []) = true ∧ (∀ t ∈ N.ts, Home B t.labels) ∧ ∀ x ∈ pickTo (labP N.ts) 100, topsTo B P x B.length ≤ 1
open Classical in
noncomputable def decB (N : Net) (B : List (List Int)) (P : List Int) : Bool := decide (DecOk N B P)
open Classical in
theorem decB_yes {N : Net} {B : List (List Int)} {P : List Int} (h : DecOk N B P) : decB N B P = true := decide_eq_true h
open Classical in
theorem decB_no {N : Net} {B : List (List Int)} {P : List Int} (h : ¬ DecOk N B P) : decB N B P = false := decide_eq_false h
open Classical in
noncomputable def bagsB (ts : List Ten) (B : List (List Int)) (P : List Int) : Bool := decide (BagsOk ts B P)
open Classical in
theorem bagsB_yes {ts : List Ten} {B : List (List Int)} {P : List Int} (h : BagsOk ts B P) : bagsB ts B P = true := decide_eq_true h
open Classical in
theorem bagsB_no {ts : List Ten} {B : List (List Int)} {P : List Int} (h : ¬ BagsOk ts B P) : bagsB ts B P = false := decide_eq_false h
theorem bagsB_iff {ts : List Ten} {B : List (List Int)} {P : List Int} : bagsB ts B P = true ↔ BagsOk ts B P := by
  constructor
  · intro h
    by_cases hc : BagsOk ts B P
    · exact hc
    · rw [bagsB_no hc] at h; cases h
  · exact bagsB_yes
/-- An impl with every label's tops counted: a home is a top. -/
theorem tops_one {N : Net} {B : List (List Int)} {P : List Int} (hb : BagsOk N.ts B P) (hh : ∀ t ∈ N.ts, Home B t.labels) {x : Int} (hx : dimN N.ts x ≠ 0) : 1 ≤ topsTo B P x B.length := by
  obtain ⟨t, ht, hxt⟩ := labP_ten hx
  obtain ⟨k, hk, ha⟩ := hh t ht
  exact tops_pos (fun i hi => (hb.2.2 i hi).1) k hk (of_decide_eq_true ha x hxt)
/-- Sizes of a decomposition's parts. -/
structure DSz (m : Nat) (B : List (List Int)) (P : List Int) : Prop where
  b : B.length ≤ m
  e : ∀ b ∈ B, Sz m b
  p : Sz m P
def decA (B : List (List Int)) (P : List Int) : AV := .agg [.d (lists B), .d (ints P)]
attribute [go_sem] decA
end Go.Proofs.Ytcgnehacihjnkaa
