/-
  Plain: the best width over sets of closed labels. No condition.
-/
import Derived.Test.YtcgnehacihjnkaaCoS
import Derived.Test.YtcgnehacihjnkaaNetE
namespace Go.Proofs.Ytcgnehacihjnkaa
open Go.RowKit Go.Lift Plain
set_option linter.unusedSimpArgs false
set_option linter.unusedVariables false

/-! ### Tables -/
def tab (n : Nat) (f : Nat → Int) : List Int := (List.range n).map f
section
variable {n : Nat} {f g : Nat → Int}
theorem tab_len (n : Nat) (f : Nat → Int) : (tab n f).length = n := by simp [tab]
theorem tab_get (f : Nat → Int) {j : Nat} (h : j < n) : (tab n f)[j]? = some (f j) := by simp [tab, h]
theorem tab_congr (h : ∀ j, j < n → f j = g j) : tab n f = tab n g := List.map_congr_left fun j hj => h j (by simpa using hj)
theorem tab_set {j : Nat} {v : Int} (h : ∀ i, i < n → g i = if i = j then v else f i) : (tab n f).set j v = tab n g := by
  refine List.ext_getElem? fun i => ?_
  rw [List.getElem?_set]
  by_cases hi : i < n
  · rw [tab_get f hi, tab_get g hi, h i hi]
    by_cases e : j = i
    · subst e; simp [tab_len, hi]
    · rw [if_neg e, if_neg (Ne.symm e)]
  · rw [List.getElem?_eq_none (l := tab n g) (by rw [tab_len]; omega)]
    split
    · rename_i e; subst e; rw [if_neg (by rw [tab_len]; exact hi)]
    · rw [List.getElem?_eq_none (by rw [tab_len]; omega)]
theorem tab_put {j : Nat} {v : Int} (hj : j < n) (h : ∀ i, i < n → g i = if i = j then v else f i) : (tab n f).take j ++ [v] ++ (tab n f).drop (j + 1) = tab n g := by
  rw [← tab_set h, List.set_eq_take_append_cons_drop, if_pos (by rw [tab_len]; exact hj)]
  simp
theorem tab_rep (n : Nat) : repI n 0 = tab n fun _ => 0 := by
  unfold repI tab
  rw [List.map_const', List.length_range]
end
/-! ### Bits -/
def bt (s k : Nat) : Bool := decide (s / 2 ^ k % 2 = 1)
theorem bt_add {s k : Nat} (h : bt s k = false) : bt (s + 2 ^ k) k = true := by
  have hp : 0 < 2 ^ k := Nat.two_pow_pos k
  simp only [bt, decide_eq_false_iff_not, decide_eq_true_eq] at h ⊢
  rw [Nat.add_div_right _ hp]
  omega
theorem bt_ge {s k : Nat} (h : bt s k = true) : 2 ^ k ≤ s := by
  simp only [bt, decide_eq_true_eq] at h
  by_cases e : 2 ^ k ≤ s
  · exact e
  · rw [Nat.div_eq_of_lt (by omega)] at h
    omega
theorem bt_sub {s k : Nat} (h : bt s k = true) : bt (s - 2 ^ k) k = false := by
  cases e : bt (s - 2 ^ k) k
  · rfl
  · have hp : 0 < 2 ^ k := Nat.two_pow_pos k
    have hg := bt_ge h
    simp only [bt, decide_eq_true_eq] at h e
    obtain ⟨r, rfl⟩ : ∃ r, s = r + 2 ^ k := ⟨s - 2 ^ k, by omega⟩
    rw [Nat.add_div_right _ hp] at h
    rw [Nat.add_sub_cancel] at e
    omega
theorem bt_some : ∀ (c : Nat) {s : Nat}, s ≠ 0 → s < 2 ^ c → ∃ i, i < c ∧ bt s i = true
  | 0, s, h, hs => by simp at hs; omega
  | c + 1, s, h, hs => by
    by_cases e : bt s c = true
    · exact ⟨c, Nat.lt_succ_self _, e⟩
    · have h2 : s / 2 ^ c < 2 := (Nat.div_lt_iff_lt_mul (Nat.two_pow_pos c)).2 (by rw [Nat.pow_succ] at hs; omega)
      simp only [bt, decide_eq_true_eq] at e
      have h0 : s / 2 ^ c = 0 := by
        generalize s / 2 ^ c = q at *
        omega
      have hlt : s < 2 ^ c := (Nat.div_eq_zero_iff_lt (Nat.two_pow_pos c)).1 h0
      obtain ⟨i, hi, hb⟩ := bt_some c h hlt
      exact ⟨i, by omega, hb⟩
/-! ### Least values -/
def lst (p : Nat → Bool) (v : Nat → Int) (a : Int) : Nat → Int
  | 0 => a
  | c + 1 => if p c = true then min (lst p v a c) (v c) else lst p v a c
section
variable {p q : Nat → Bool} {v w : Nat → Int} {a b : Int} {c : Nat}
theorem lst_congr : ∀ {c : Nat}, (∀ i, i < c → p i = q i) → (∀ i, i < c → p i = true → v i = w i) → lst p v a c = lst q w a c
  | 0, _, _ => rfl
  | c + 1, h, h2 => by
    have ih := lst_congr (c := c) (fun i hi => h i (by omega)) fun i hi => h2 i (by omega)
    rw [lst, lst, ih, ← h c (by omega)]
    by_cases e : p c = true
    · rw [if_pos e, if_pos e, h2 c (by omega) e]
    · rw [if_neg e, if_neg e]
theorem lst_le : ∀ {c i : Nat}, i < c → p i = true → lst p v a c ≤ v i
  | c + 1, i, hi, hp => by
    rw [lst]
    by_cases e : i = c
    · subst e; rw [if_pos hp]; omega
    · have := lst_le (c := c) (i := i) (by omega) hp
      split <;> omega
theorem lst_ge : ∀ {c : Nat} {m : Int}, m ≤ a → (∀ i, i < c → p i = true → m ≤ v i) → m ≤ lst p v a c
  | 0, m, h, _ => h
  | c + 1, m, h, h2 => by
    have := lst_ge (c := c) h fun i hi => h2 i (by omega)
    rw [lst]
    split
    · rename_i e; have := h2 c (by omega) e; omega
    · exact this
theorem lst_min : ∀ {c : Nat}, lst p v (min a b) c = min (lst p v a c) b
  | 0 => rfl
  | c + 1 => by
    rw [lst, lst, lst_min (c := c)]
    split <;> omega
theorem lst_cap {m : Int} {i : Nat} (hi : i < c) (hp : p i = true) (hv : v i ≤ m) (ha : m ≤ a) (hb : m ≤ b) : lst p v a c = lst p v b c := by
  have h1 := lst_le (p := p) (v := v) (a := a) hi hp
  have h2 := lst_le (p := p) (v := v) (a := b) hi hp
  have e1 := lst_min (p := p) (v := v) (a := a) (b := b) (c := c)
  have e2 := lst_min (p := p) (v := v) (a := b) (b := a) (c := c)
  rw [Int.min_comm b a] at e2
  omega
theorem lst_one {k : Nat} : ∀ {c : Nat}, k < c → (∀ i, i < c → q i = (p i || decide (i = k))) → lst q v a c = min (lst p v a c) (v k)
  | c + 1, hk, h => by
    rw [lst, lst]
    have hc := h c (by omega)
    by_cases e : k = c
    · subst e
      have h0 : lst q v a k = lst p v a k ∨ True := .inr trivial
      have hq : q k = true := by rw [hc]; simp
      rw [if_pos hq]
      have e0 : lst q v a k = lst p v a k := lst_congr (fun i hi => by rw [h i (by omega)]; simp; omega) fun _ _ _ => rfl
      rw [e0]
      split <;> omega
    · have hq : q c = p c := by rw [hc]; simp; omega
      rw [hq, lst_one (c := c) (by omega) fun i hi => h i (by omega)]
      split <;> omega
end
/-! ### The widths of sets -/
def elS (L : List (List Int)) (C : List Int) (s : Nat) : Nat → List (List Int)
  | 0 => L
  | k + 1 => if bt s k = true then elimL (elS L C s k) (C.getD k 0) else elS L C s k
def widS (L : List (List Int)) (C : List Int) (s i : Nat) : Int := ((bucket (elS L C s C.length) (C.getD i 0)).length : Int)
section
variable {L : List (List Int)} {C : List Int} {s : Nat}
theorem elS_ok (h : LOk L) : ∀ k, LOk (elS L C s k)
  | 0 => h
  | k + 1 => by
    rw [elS]
    split
    · exact elimL_ok (elS_ok h k) _
    · exact elS_ok h k
theorem elS_len : ∀ k, (elS L C s k).length ≤ L.length + k
  | 0 => Nat.le_refl _
  | k + 1 => by
    have h1 := elS_len k
    have h2 := elimL_len (elS L C s k) (C.getD k 0)
    rw [elS]
    split <;> omega
theorem buck_in {P : Int → Prop} (h : ∀ l ∈ L, ∀ x ∈ l, P x) (y : Int) : ∀ k, k ≤ L.length → ∀ x ∈ buckTo L y k, P x
  | 0, _ => by simp [buckTo]
  | k + 1, hk => by
    have ih := buck_in h y k (by omega)
    have hl := h L[k] (List.getElem_mem (by omega))
    cases hh : has L[k] y
    · rw [buckTo_no (by omega) hh]; exact ih
    · rw [buckTo_yes (by omega) hh]
      intro x hx
      rcases mem_joinL.1 hx with hx | hx
      · exact ih x hx
      · exact hl x hx
theorem elimL_in {P : Int → Prop} (h : ∀ l ∈ L, ∀ x ∈ l, P x) (y : Int) : ∀ l ∈ elimL L y, ∀ x ∈ l, P x := by
  intro l hl x hx
  unfold elimL at hl
  rcases List.mem_append.1 hl with hl | hl
  · exact h l (List.mem_of_mem_take (List.mem_filter.1 hl).1) x hx
  · simp only [List.mem_singleton] at hl
    subst hl
    exact buck_in h y L.length (Nat.le_refl _) x (List.mem_filter.1 hx).1
theorem elS_in {P : Int → Prop} (h : ∀ l ∈ L, ∀ x ∈ l, P x) : ∀ k, ∀ l ∈ elS L C s k, ∀ x ∈ l, P x
  | 0 => h
  | k + 1 => by
    rw [elS]
    split
    · exact elimL_in (elS_in h k) _
    · exact elS_in h k
theorem widS_le {M : List Int} (ho : LOk L) (h : ∀ l ∈ L, ∀ x ∈ l, x ∈ M) (i : Nat) : 0 ≤ widS L C s i ∧ widS L C s i ≤ M.length := by
  have h1 := buckTo_ok (x := C.getD i 0) (elS_ok (C := C) (s := s) ho C.length) _ (Nat.le_refl _)
  have h2 := buck_in (elS_in (C := C) (s := s) h C.length) (C.getD i 0) _ (Nat.le_refl _)
  have := nodup_sub_len h1.1 h2
  unfold widS bucket
  omega
end
/-! ### The best width of a set -/
def best (W : Nat → Nat → Int) (c : Nat) (cap : Int) (s : Nat) : Int :=
  if h : s = 0 then 0 else lst (bt s) (fun i => max (best W c cap (s - 2 ^ i)) (W (s - 2 ^ i) i)) cap c
termination_by s
decreasing_by
  have := Nat.two_pow_pos i
  omega
section
variable {W : Nat → Nat → Int} {c : Nat} {cap cap' m : Int} {s : Nat}
theorem best_zero : best W c cap 0 = 0 := by rw [best]; simp
def bval (W : Nat → Nat → Int) (c : Nat) (cap : Int) (s i : Nat) : Int := max (best W c cap (s - 2 ^ i)) (W (s - 2 ^ i) i)
theorem best_eq (h : s ≠ 0) : best W c cap s = lst (bt s) (bval W c cap s) cap c := by rw [best, dif_neg h]; rfl
theorem best_bd (hm : 0 ≤ m) (hc : m ≤ cap) (hW : ∀ s i, 0 ≤ W s i ∧ W s i ≤ m) : ∀ s, s < 2 ^ c → 0 ≤ best W c cap s ∧ best W c cap s ≤ m := by
  intro s
  induction s using Nat.strongRecOn with
  | _ s ih =>
    intro hs
    by_cases h0 : s = 0
    · subst h0; rw [best_zero]; omega
    · rw [best_eq h0]
      obtain ⟨i, hi, hb⟩ := bt_some c h0 hs
      have hp := Nat.two_pow_pos i
      have h1 := lst_le (p := bt s) (v := bval W c cap s) (a := cap) hi hb
      have h2 := ih (s - 2 ^ i) (by omega) (by omega)
      have h3 := hW (s - 2 ^ i) i
      refine ⟨lst_ge (by omega) fun j hj hbj => ?_, ?_⟩
      · have := (hW (s - 2 ^ j) j).1
        unfold bval
        omega
      · unfold bval at h1 ⊢
        omega
theorem best_cap (hm : 0 ≤ m) (hc : m ≤ cap) (hc' : m ≤ cap') (hW : ∀ s i, 0 ≤ W s i ∧ W s i ≤ m) : ∀ s, s < 2 ^ c → best W c cap s = best W c cap' s := by
  intro s
  induction s using Nat.strongRecOn with
  | _ s ih =>
    intro hs
    by_cases h0 : s = 0
    · subst h0; rw [best_zero, best_zero]
    · rw [best_eq h0, best_eq h0]
      have hv : ∀ i, bval W c cap s i = bval W c cap' s i := fun i => by
        have hp := Nat.two_pow_pos i
        unfold bval
        rw [ih (s - 2 ^ i) (by omega) (by omega)]
      rw [lst_congr (fun _ _ => rfl) fun i _ _ => hv i]
      obtain ⟨i, hi, hb⟩ := bt_some c h0 hs
      have hp := Nat.two_pow_pos i
      have h2 := best_bd (c := c) hm hc' hW (s - 2 ^ i) (by omega)
      have h3 := hW (s - 2 ^ i) i
      exact lst_cap (m := m) hi hb (by unfold bval; omega) hc hc'
variable {j k : Nat}
def bq (s k j i : Nat) : Bool := bt j i && (decide (j - 2 ^ i < s) || (decide (j - 2 ^ i = s) && decide (i < k)))
def bfw (W : Nat → Nat → Int) (c : Nat) (cap : Int) (s k j : Nat) : Int := if j = 0 then 0 else lst (bq s k j) (bval W c cap j) cap c
theorem bfw_zero : bfw W c cap 0 0 j = if j = 0 then 0 else cap := by
  unfold bfw
  split
  · rfl
  · have : lst (bq 0 0 j) (bval W c cap j) cap c = lst (fun _ => false) (bval W c cap j) cap c := lst_congr (fun i _ => by simp [bq]) fun _ _ _ => rfl
    rw [this]
    have : ∀ c : Nat, lst (fun _ => false) (bval W c cap j) cap c = cap := fun c => by
      induction c with
      | zero => rfl
      | succ c ih => 
        rw [lst]
        simp only [Bool.false_eq_true, if_false]
        have e : ∀ (v w : Nat → Int) (n : Nat), lst (fun _ => false) v cap n = lst (fun _ => false) w cap n := fun v w n => lst_congr (fun _ _ => rfl) fun _ _ h => by simp at h
        rw [e _ (bval W c cap j)]
        exact ih
    exact this c
theorem bfw_done (h : j ≤ s) : bfw W c cap s k j = best W c cap j := by
  unfold bfw
  by_cases h0 : j = 0
  · subst h0; rw [if_pos rfl, best_zero]
  · rw [if_neg h0, best_eq h0]
    refine lst_congr (fun i _ => ?_) fun _ _ _ => rfl
    have hp := Nat.two_pow_pos i
    simp only [bq, show j - 2 ^ i < s by omega, decide_true, Bool.true_or, Bool.and_true]
theorem bfw_next (hn : ∀ i, bt j i = true → i < c) : bfw W c cap s c j = bfw W c cap (s + 1) 0 j := by
  unfold bfw
  split
  · rfl
  · refine lst_congr (fun i hi => ?_) fun _ _ _ => rfl
    simp only [bq, hi, decide_true, Bool.and_true, Nat.not_lt_zero, decide_false, Bool.and_false, Bool.or_false]
    congr 1
    by_cases e : j - 2 ^ i < s
    · simp [e]; omega
    · by_cases e2 : j - 2 ^ i = s
      · simp [e2]
      · simp [e, e2]; omega
theorem bfw_skip (hb : bt s k = true) : bfw W c cap s (k + 1) j = bfw W c cap s k j := by
  unfold bfw
  split
  · rfl
  · refine lst_congr (fun i hi => ?_) fun _ _ _ => rfl
    unfold bq
    by_cases e : bt j i = true
    · by_cases e2 : j - 2 ^ i = s ∧ i = k
      · obtain ⟨e3, rfl⟩ := e2
        have := bt_sub e
        rw [e3, hb] at this
        cases this
      · congr 2
        by_cases e3 : j - 2 ^ i = s
        · have : i ≠ k := fun x => e2 ⟨e3, x⟩
          simp only [e3, decide_true, Bool.true_and]
          exact decide_eq_decide.2 (by omega)
        · simp [e3]
    · simp [e]
theorem bfw_step (hb : bt s k = false) (hk : k < c) : bfw W c cap s (k + 1) j = if j = s + 2 ^ k then min (bfw W c cap s k j) (max (best W c cap s) (W s k)) else bfw W c cap s k j := by
  have hp := Nat.two_pow_pos k
  by_cases e : j = s + 2 ^ k
  · subst e
    rw [if_pos rfl]
    unfold bfw
    rw [if_neg (by omega), if_neg (by omega)]
    have hv : bval W c cap (s + 2 ^ k) k = max (best W c cap s) (W s k) := by unfold bval; rw [Nat.add_sub_cancel]
    rw [← hv]
    refine lst_one hk fun i hi => ?_
    have hbk := bt_add hb
    unfold bq
    by_cases ei : i = k
    · subst ei
      simp [hbk]
    · by_cases e1 : bt (s + 2 ^ k) i = true
      · have hg := bt_ge e1
        have : ¬ s + 2 ^ k - 2 ^ i = s := fun h => by
          have h2 : 2 ^ i = 2 ^ k := by omega
          rcases Nat.lt_trichotomy i k with h3 | h3 | h3
          · have := Nat.pow_lt_pow_right (a := 2) (by omega) h3
            omega
          · exact ei h3
          · have := Nat.pow_lt_pow_right (a := 2) (by omega) h3
            omega
        simp [this, ei]
      · simp [e1, ei]
  · rw [if_neg e]
    unfold bfw
    split
    · rfl
    · refine lst_congr (fun i hi => ?_) fun _ _ _ => rfl
      unfold bq
      by_cases e1 : bt j i = true
      · have hg := bt_ge e1
        congr 2
        by_cases e3 : j - 2 ^ i = s
        · have : i ≠ k := fun x => e (by subst x; omega)
          simp only [e3, decide_true, Bool.true_and]
          exact decide_eq_decide.2 (by omega)
        · simp [e3]
      · simp [e1]
end
end Go.Proofs.Ytcgnehacihjnkaa
