/-
  Plain facts on lists of integers; no program in sight. No condition.
-/
namespace Go.Proofs.Ytmgifmgdfldheaa.Plain

theorem set_take_rep (xs : List Int) (n k : Nat) (z : Int) (hl : xs.length = n) (hk : k < n) :
    (xs.take k ++ List.replicate (n - k) z).set k (xs.getD k 0) = xs.take (k + 1) ++ List.replicate (n - (k + 1)) z := by
  apply List.ext_getElem (by simp; omega)
  intro j h1 h2
  simp only [List.getElem_set, List.getElem_append, List.getElem_take, List.getElem_replicate, List.length_take, List.getD_eq_getElem?_getD]
  simp at h1 h2
  have hkl : k < xs.length := by omega
  by_cases e : k = j
  · subst e
    rw [if_pos rfl, dif_pos (by omega)]
    simp [List.getElem?_eq_getElem hkl]
  · rw [if_neg e]
    by_cases hj : j < k
    · rw [dif_pos (by omega), dif_pos (by omega)]
    · rw [dif_neg (by omega), dif_neg (by omega)]

theorem set_upto (k0 : Int) (xs : List Int) (n k : Nat) (hl : xs.length = n) (hk : k < n) :
    (((List.range k).map fun (i : Nat) => k0 + (i : Int)) ++ xs.drop k).set k (k0 + k) = ((List.range (k + 1)).map fun (i : Nat) => k0 + (i : Int)) ++ xs.drop (k + 1) := by
  subst hl
  rw [List.range_succ, List.map_append, List.drop_eq_getElem_cons hk, List.set_append_right _ _ (by simp)]
  simp only [List.length_map, List.length_range, Nat.sub_self, List.set_cons_zero, List.map_cons, List.map_nil, List.append_assoc, List.cons_append, List.nil_append]

/-! ### Sizes -/

/-- The product of dimensions. -/
def prodI (ds : List Int) : Int := ds.foldl (· * ·) 1
theorem foldl_mul (ds : List Int) (a : Int) : ds.foldl (· * ·) a = a * prodI ds := by
  unfold prodI
  induction ds generalizing a with
  | nil => simp
  | cons d ds ih => rw [List.foldl_cons, List.foldl_cons, ih (a * d), ih (1 * d), Int.one_mul, Int.mul_assoc]
theorem prodI_nil : prodI [] = 1 := rfl
theorem prodI_cons (d : Int) (ds : List Int) : prodI (d :: ds) = d * prodI ds := by
  show List.foldl _ (1 * d) ds = _
  rw [foldl_mul, Int.one_mul]
theorem prodI_append (a b : List Int) : prodI (a ++ b) = prodI a * prodI b := by
  unfold prodI
  rw [List.foldl_append, foldl_mul b]; rfl
theorem prodI_take_succ (ds : List Int) (k : Nat) (h : k < ds.length) : prodI (ds.take (k + 1)) = prodI (ds.take k) * ds.getD k 0 := by
  rw [List.take_succ_eq_append_getElem h, prodI_append, prodI_cons, prodI_nil, Int.mul_one]
  simp [List.getElem?_eq_getElem h]
theorem prodI_pos (ds : List Int) (h : ∀ d ∈ ds, 1 ≤ d) : 1 ≤ prodI ds := by
  induction ds with
  | nil => simp [prodI]
  | cons d ds ih =>
    rw [prodI_cons]
    have h1 := h d (by simp)
    have h2 := ih (fun x hx => h x (by simp [hx]))
    have : 0 < d * prodI ds := Int.mul_pos (by omega) (by omega)
    omega
theorem prodI_take_le (ds : List Int) (k : Nat) (h : ∀ d ∈ ds, 1 ≤ d) : prodI (ds.take k) ≤ prodI ds := by
  have e : prodI ds = prodI (ds.take k) * prodI (ds.drop k) := by rw [← prodI_append, List.take_append_drop]
  have h1 := prodI_pos (ds.take k) (fun d hd => h d (List.mem_of_mem_take hd))
  have h2 := prodI_pos (ds.drop k) (fun d hd => h d (List.mem_of_mem_drop hd))
  rw [e]
  have : prodI (ds.take k) * 1 ≤ prodI (ds.take k) * prodI (ds.drop k) := Int.mul_le_mul_of_nonneg_left h2 (by omega)
  omega

/-- The axis at place k is right. -/
def axAt (ls ds : List Int) (k : Nat) : Prop := 0 ≤ ls.getD k 0 ∧ ls.getD k 0 ≤ 99 ∧ 1 ≤ ds.getD k 0 ∧ ds.getD k 0 ≤ 8 ∧ ls.getD k 0 ∉ ls.take k
instance (ls ds : List Int) (k : Nat) : Decidable (axAt ls ds k) := by unfold axAt; infer_instance
/-- Labels and dimensions are right. -/
def axOk (ls ds : List Int) : Prop := ls.length ≤ 12 ∧ ls.length = ds.length ∧ ∀ k, k < ls.length → axAt ls ds k
instance (ls ds : List Int) : Decidable (axOk ls ds) := by unfold axOk; infer_instance
theorem axOk.dim {ls ds : List Int} (h : axOk ls ds) : ∀ d ∈ ds, 1 ≤ d ∧ d ≤ 8 := by
  intro d hd
  obtain ⟨k, hk, e⟩ := List.getElem_of_mem hd
  have h3 := h.2.2 k (by rw [h.2.1]; exact hk)
  unfold axAt at h3
  rw [show ds.getD k 0 = d from by simp [List.getElem?_eq_getElem hk, e]] at h3
  exact ⟨h3.2.2.1, h3.2.2.2.1⟩
/-- The size of a tensor; -1 where it is none. -/
def tsize (ls ds : List Int) : Int := if axOk ls ds ∧ prodI ds ≤ 4096 then prodI ds else -1
theorem tsize_len1 {ls ds : List Int} (h : 12 < ls.length) : tsize ls ds = -1 := by
  unfold tsize; rw [if_neg]; rintro ⟨h1, _⟩; have := h1.1; omega
theorem tsize_len2 {ls ds : List Int} (h : ls.length ≠ ds.length) : tsize ls ds = -1 := by
  unfold tsize; rw [if_neg]; rintro ⟨h1, _⟩; exact h h1.2.1
theorem tsize_ax {ls ds : List Int} (k : Nat) (hk : k < ls.length) (h : ¬ axAt ls ds k) : tsize ls ds = -1 := by
  unfold tsize; rw [if_neg]; rintro ⟨h1, _⟩; exact h (h1.2.2 k hk)
theorem tsize_big {ls ds : List Int} (k : Nat) (hk : k < ls.length) (hl : ls.length = ds.length) (h : 4096 < prodI (ds.take k) * ds.getD k 0) : tsize ls ds = -1 := by
  unfold tsize; rw [if_neg]
  rintro ⟨h1, h2⟩
  have := prodI_take_le ds (k + 1) (fun d hd => (h1.dim d hd).1)
  rw [prodI_take_succ ds k (by omega)] at this
  omega
theorem tsize_good {ls ds : List Int} (h0 : ls.length ≤ 12) (h1 : ls.length = ds.length) (h2 : ∀ k, k < ls.length → axAt ls ds k) (h3 : prodI ds ≤ 4096) : tsize ls ds = prodI ds := by
  unfold tsize; rw [if_pos ⟨⟨h0, h1, h2⟩, h3⟩]
theorem tsize_cases (ls ds : List Int) : tsize ls ds = -1 ∨ (axOk ls ds ∧ prodI ds ≤ 4096 ∧ tsize ls ds = prodI ds ∧ 1 ≤ prodI ds) := by
  unfold tsize
  by_cases h : axOk ls ds ∧ prodI ds ≤ 4096
  · rw [if_pos h]; exact .inr ⟨h.1, h.2, rfl, prodI_pos ds fun d hd => (h.1.dim d hd).1⟩
  · rw [if_neg h]; exact .inl rfl

/-- Is x in the list? -/
def has (xs : List Int) (x : Int) : Bool := decide (x ∈ xs)
theorem has_true {xs : List Int} {x : Int} : has xs x = true ↔ x ∈ xs := by simp [has]
theorem has_false {xs : List Int} {x : Int} : has xs x = false ↔ x ∉ xs := by simp [has]
theorem mem_take_succ (xs : List Int) (k : Nat) (x : Int) (h : k < xs.length) : x ∈ xs.take (k + 1) ↔ x ∈ xs.take k ∨ x = xs.getD k 0 := by
  rw [List.take_succ_eq_append_getElem h, List.mem_append]
  simp [List.getElem?_eq_getElem h]
theorem mem_of_get (xs : List Int) (k : Nat) (h : k < xs.length) : xs.getD k 0 ∈ xs := by
  simp [List.getElem?_eq_getElem h]

/-- The place of x in the list, or -1. -/
def place (xs : List Int) (x : Int) : Int := if x ∈ xs then (xs.idxOf x : Int) else -1
theorem place_no {xs : List Int} {x : Int} (h : x ∉ xs) : place xs x = -1 := by unfold place; rw [if_neg h]
theorem place_yes {xs : List Int} {k : Nat} (hk : k < xs.length) (h : xs.getD k 0 ∉ xs.take k) : place xs (xs.getD k 0) = k := by
  unfold place
  have hg : xs.getD k 0 = xs[k] := by simp [List.getElem?_eq_getElem hk]
  rw [if_pos (mem_of_get xs k hk)]
  have hs : xs = xs.take k ++ xs[k] :: xs.drop (k + 1) := by rw [← List.drop_eq_getElem_cons hk, List.take_append_drop]
  rw [hg] at h ⊢
  have hi : List.idxOf xs[k] (xs.take k ++ xs[k] :: xs.drop (k + 1)) = k := by
    rw [List.idxOf_append, if_neg h, List.idxOf_cons_self]
    simp; omega
  rw [← hs] at hi
  omega
theorem place_neg {xs : List Int} {x : Int} : place xs x < 0 ↔ x ∉ xs := by
  unfold place
  by_cases h : x ∈ xs
  · rw [if_pos h]; constructor
    · intro h2; omega
    · intro h2; exact absurd h h2
  · rw [if_neg h]; simp [h]

theorem axAt_has (ls ds : List Int) (k : Nat) : axAt ls ds k ↔ 0 ≤ ls.getD k 0 ∧ ls.getD k 0 ≤ 99 ∧ has (ls.take k) (ls.getD k 0) = false ∧ 1 ≤ ds.getD k 0 ∧ ds.getD k 0 ≤ 8 := by
  unfold axAt
  rw [has_false]
  constructor
  · rintro ⟨a, b, c, d, e⟩; exact ⟨a, b, e, c, d⟩
  · rintro ⟨a, b, c, d, e⟩; exact ⟨a, b, d, e, c⟩

theorem min_mul (p y m : Int) (hy : 1 ≤ y) (hm : 1 ≤ m) : min (min p m * y) m = min (p * y) m := by
  rcases Int.le_total p m with h | h
  · rw [Int.min_eq_left h]
  · rw [Int.min_eq_right h]
    have h1 : m ≤ m * y := by have := Int.mul_le_mul_of_nonneg_left hy (show 0 ≤ m by omega); omega
    have h2 : m * y ≤ p * y := Int.mul_le_mul_of_nonneg_right h (by omega)
    omega

end Go.Proofs.Ytmgifmgdfldheaa.Plain
