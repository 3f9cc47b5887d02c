/-
  Lists: members, places, what is filtered, joined axes. No condition.
-/
import Derived.Test.YtmgifmgdfldheaaMix
import Derived.Test.YtmgifmgdfldheaaPlain3
namespace Go.Proofs.Ytmgifmgdfldheaa
open Plain

theorem take_ss {α : Type} {xs : List α} {k : Nat} (h : k < xs.length) : xs.take (k + 1) = xs.take k ++ [xs[k]] := List.take_succ_eq_append_getElem h
theorem filter_yes {α : Type} {xs : List α} {k : Nat} {p : α → Bool} (h : k < xs.length) (hp : p xs[k] = true) : (xs.take (k + 1)).filter p = (xs.take k).filter p ++ [xs[k]] := by
  rw [take_ss h, List.filter_append]; simp [hp]
theorem filter_no {α : Type} {xs : List α} {k : Nat} {p : α → Bool} (h : k < xs.length) (hp : p xs[k] = false) : (xs.take (k + 1)).filter p = (xs.take k).filter p := by
  rw [take_ss h, List.filter_append]; simp [hp]
theorem filter_len {α : Type} (xs : List α) (k : Nat) (p : α → Bool) : ((xs.take k).filter p).length ≤ xs.length := by
  have := List.length_filter_le p (xs.take k)
  have := List.length_take_le k xs
  simp at *; omega
theorem getD_of {xs : List Int} {k : Nat} (h : k < xs.length) : xs.getD k 0 = xs[k] := by simp [h]
theorem place_at {xs : List Int} {k : Nat} (hk : k < xs.length) (h : xs[k] ∉ xs.take k) : place xs xs[k] = k := by
  have := place_yes (xs := xs) (k := k) hk (by rw [getD_of hk]; exact h)
  rwa [getD_of hk] at this
theorem place_mem {xs : List Int} {x : Int} (h : x ∈ xs) : ∃ k : Nat, ∃ hk : k < xs.length, place xs x = k ∧ xs[k] = x ∧ x ∉ xs.take k := by
  refine ⟨xs.idxOf x, List.idxOf_lt_length_of_mem h, by simp [place, h], List.getElem_idxOf _, fun hm => ?_⟩
  have h1 : xs.idxOf x = (xs.take (xs.idxOf x) ++ xs.drop (xs.idxOf x)).idxOf x := by rw [List.take_append_drop]
  rw [List.idxOf_append, if_pos hm] at h1
  have h2 := List.idxOf_lt_length_of_mem hm
  rw [List.length_take] at h2
  omega
theorem not_mem_take {xs : List Int} {k : Nat} {x : Int} (h : k < xs.length) (h1 : x ∉ xs.take k) (h2 : x ≠ xs[k]) : x ∉ xs.take (k + 1) := by
  rw [take_ss h, List.mem_append]; simp [h1, h2]

/-! ### Joined axes -/
def dimAt (t : Ten) (l : Int) : Int := t.dims.getD (place t.labels l).toNat 0
def joinL (a b : List Int) : List Int := a ++ b.filter fun x => !has a x
def joinD (a b : Ten) : List Int := (joinL a.labels b.labels).map fun l => if has a.labels l = true then dimAt a l else dimAt b l
def joinOk (a b : Ten) : Bool := (joinL a.labels b.labels).all fun l => !(has a.labels l && has b.labels l && dimAt a l != dimAt b l)
theorem Plain.axOk.len {ls ds : List Int} (h : axOk ls ds) : ls.length = ds.length := h.2.1
theorem Plain.axOk.fresh {ls ds : List Int} (h : axOk ls ds) {k : Nat} (hk : k < ls.length) : ls[k] ∉ ls.take k := by
  have := (h.2.2 k hk).2.2.2.2
  rwa [getD_of hk] at this
theorem dimAt_get {t : Ten} (h : t.labels.length = t.dims.length) {l : Int} (hl : l ∈ t.labels) : ∃ i : Nat, i < t.labels.length ∧ i < t.dims.length ∧ place t.labels l = i ∧ t.dims[i]? = some (dimAt t l) := by
  obtain ⟨i, hi, e, _, _⟩ := place_mem hl
  refine ⟨i, hi, by omega, e, ?_⟩
  have hi' : i < t.dims.length := by omega
  simp [dimAt, e, hi']
theorem dimAt_at {t : Ten} (h : axOk t.labels t.dims) {k : Nat} (hk : k < t.labels.length) (hk' : k < t.dims.length) : dimAt t t.labels[k] = t.dims[k] := by
  simp [dimAt, place_at hk (h.fresh hk), hk']
theorem dims_map {t : Ten} (h : axOk t.labels t.dims) : t.labels.map (dimAt t) = t.dims := by
  refine List.ext_getElem (by simp [h.len]) fun k h1 h2 => ?_
  rw [List.getElem_map]
  exact dimAt_at h (by simpa using h1) h2
theorem mem_joinL {a b : List Int} {x : Int} : x ∈ joinL a b ↔ x ∈ a ∨ x ∈ b := by
  simp only [joinL, List.mem_append, List.mem_filter, Bool.not_eq_true', has_false]
  by_cases h : x ∈ a <;> simp [h]
theorem joinL_len (a b : List Int) : (joinL a b).length ≤ a.length + b.length := by
  have := List.length_filter_le (fun x => !has a x) b
  simp [joinL]; omega
theorem dimAt_bd {t : Ten} (h : axOk t.labels t.dims) {l : Int} (hl : l ∈ t.labels) : 1 ≤ dimAt t l ∧ dimAt t l ≤ 8 := by
  obtain ⟨i, _, hi, _, e⟩ := dimAt_get h.len hl
  rw [List.getElem?_eq_getElem hi] at e
  simp at e
  rw [← e]
  exact h.dim _ (List.getElem_mem _)
theorem joinD_bd {a b : Ten} (ha : axOk a.labels a.dims) (hb : axOk b.labels b.dims) : ∀ d ∈ joinD a b, 1 ≤ d ∧ d ≤ 8 := by
  intro d hd
  simp only [joinD, List.mem_map] at hd
  obtain ⟨l, hl, rfl⟩ := hd
  split
  · rename_i h
    exact dimAt_bd ha (has_true.1 h)
  · rename_i h
    have h' : l ∉ a.labels := fun hm => h (has_true.2 hm)
    exact dimAt_bd hb ((mem_joinL.1 hl).resolve_left h')
/-- The joined axes, as the second tensor's labels are met one by one. -/
def joinTo (a b : Ten) (k : Nat) : List Int := a.dims ++ ((b.labels.take k).filter fun x => !has a.labels x).map (dimAt b)
theorem joinD_eq {a b : Ten} (ha : axOk a.labels a.dims) : joinD a b = joinTo a b b.labels.length := by
  rw [joinD, joinL, List.map_append, joinTo, List.take_length]
  congr 1
  · refine Eq.trans (List.map_congr_left fun l hl => ?_) (dims_map ha)
    rw [if_pos (has_true.2 hl)]
  · refine List.map_congr_left fun l hl => ?_
    simp only [List.mem_filter, Bool.not_eq_true'] at hl
    rw [if_neg (by rw [hl.2]; simp)]
theorem prodI_filter_le {ls : List Int} {f : Int → Int} (h : ∀ l ∈ ls, 1 ≤ f l) (p : Int → Bool) : prodI ((ls.filter p).map f) ≤ prodI (ls.map f) := by
  induction ls with
  | nil => simp
  | cons x l ih =>
    have ih := ih fun y hy => h y (List.mem_cons_of_mem _ hy)
    have hx := h x List.mem_cons_self
    have hp : 1 ≤ prodI (l.map f) := prodI_pos _ fun d hd => by
      obtain ⟨y, hy, rfl⟩ := List.mem_map.1 hd
      exact h y (List.mem_cons_of_mem _ hy)
    rw [List.map_cons, prodI_cons]
    have h1 : 1 * prodI (l.map f) ≤ f x * prodI (l.map f) := Int.mul_le_mul_of_nonneg_right hx (by omega)
    by_cases hpx : p x = true
    · rw [List.filter_cons_of_pos hpx, List.map_cons, prodI_cons]
      exact Int.mul_le_mul_of_nonneg_left ih (by omega)
    · rw [List.filter_cons_of_neg hpx]
      omega
theorem joinD_prod {a b : Ten} (ha : axOk a.labels a.dims) (hb : axOk b.labels b.dims) (pa : prodI a.dims ≤ 4096) (pb : prodI b.dims ≤ 4096) : 1 ≤ prodI (joinD a b) ∧ prodI (joinD a b) ≤ 16777216 := by
  refine ⟨prodI_pos _ fun d hd => (joinD_bd ha hb d hd).1, ?_⟩
  rw [joinD_eq ha, joinTo, List.take_length, prodI_append]
  have h1 := prodI_filter_le (ls := b.labels) (f := dimAt b) (fun l hl => (dimAt_bd hb hl).1) (fun x => !has a.labels x)
  rw [dims_map hb] at h1
  have h2 : 1 ≤ prodI a.dims := prodI_pos _ fun d hd => (ha.dim d hd).1
  have h3 : 0 ≤ prodI ((b.labels.filter fun x => !has a.labels x).map (dimAt b)) := by
    have := prodI_pos ((b.labels.filter fun x => !has a.labels x).map (dimAt b)) fun d hd => by
      obtain ⟨y, hy, rfl⟩ := List.mem_map.1 hd
      exact (dimAt_bd hb (List.mem_filter.1 hy).1).1
    omega
  calc prodI a.dims * prodI ((b.labels.filter fun x => !has a.labels x).map (dimAt b)) ≤ 4096 * 4096 := Int.mul_le_mul pa (by omega) h3 (by omega)
    _ = 16777216 := by decide
theorem joinOk_no {a b : Ten} {l : Int} (h1 : l ∈ a.labels) (h2 : l ∈ b.labels) (h : dimAt a l ≠ dimAt b l) : joinOk a b = false := by
  rw [joinOk, List.all_eq_false]
  exact ⟨l, mem_joinL.2 (.inl h1), by simp [has_true.2 h1, has_true.2 h2, h]⟩
theorem joinOk_yes {a b : Ten} (h : ∀ l, l ∈ a.labels → l ∈ b.labels → dimAt a l = dimAt b l) : joinOk a b = true := by
  rw [joinOk, List.all_eq_true]
  intro l _
  by_cases h1 : l ∈ a.labels
  · by_cases h2 : l ∈ b.labels
    · simp [h l h1 h2]
    · simp [has_false.2 h2]
  · simp [has_false.2 h1]
theorem joinOk_get {a b : Ten} (h : joinOk a b = true) {l : Int} (h1 : l ∈ a.labels) (h2 : l ∈ b.labels) : dimAt a l = dimAt b l := by
  by_cases e : dimAt a l = dimAt b l
  · exact e
  · rw [joinOk_no h1 h2 e] at h; cases h

theorem place_app {xs ys : List Int} {x : Int} (h : x ∈ xs) : place (xs ++ ys) x = place xs x := by
  simp [place, h, List.idxOf_append]
/-- The joined labels, as the second tensor's labels are met one by one. -/
def joinLT (a b : List Int) (k : Nat) : List Int := a ++ (b.take k).filter fun x => !has a x
theorem joinLT_zero (a b : List Int) : joinLT a b 0 = a := by simp [joinLT]
theorem joinLT_all (a b : List Int) : joinLT a b b.length = joinL a b := by simp [joinLT, joinL]
theorem joinTo_zero (a b : Ten) : joinTo a b 0 = a.dims := by simp [joinTo]
theorem joinLT_yes {a b : List Int} {k : Nat} (h : k < b.length) (hm : b[k] ∈ a) : joinLT a b (k + 1) = joinLT a b k := by
  rw [joinLT, filter_no (p := fun x => !has a x) h (by rw [has_true.2 hm]; rfl)]; rfl
theorem joinLT_no {a b : List Int} {k : Nat} (h : k < b.length) (hm : b[k] ∉ a) : joinLT a b (k + 1) = joinLT a b k ++ [b[k]] := by
  rw [joinLT, filter_yes (p := fun x => !has a x) h (by rw [has_false.2 hm]; rfl), ← List.append_assoc]; rfl
theorem joinTo_yes {a b : Ten} {k : Nat} (h : k < b.labels.length) (hm : b.labels[k] ∈ a.labels) : joinTo a b (k + 1) = joinTo a b k := by
  rw [joinTo, filter_no (p := fun x => !has a.labels x) h (by rw [has_true.2 hm]; rfl)]; rfl
theorem joinTo_no {a b : Ten} {k : Nat} (h : k < b.labels.length) (hm : b.labels[k] ∉ a.labels) : joinTo a b (k + 1) = joinTo a b k ++ [dimAt b b.labels[k]] := by
  rw [joinTo, filter_yes (p := fun x => !has a.labels x) h (by rw [has_false.2 hm]; rfl), List.map_append, ← List.append_assoc]; rfl
theorem joinLT_len (a b : List Int) (k : Nat) : (joinLT a b k).length ≤ a.length + b.length := by
  have := filter_len b k fun x => !has a x
  simp only [joinLT, List.length_append]; omega
theorem joinTo_len (a b : Ten) (k : Nat) : (joinTo a b k).length ≤ a.dims.length + b.labels.length := by
  have := filter_len b.labels k fun x => !has a.labels x
  simp only [joinTo, List.length_append, List.length_map]; omega
theorem joinLT_fresh {a b : List Int} {k : Nat} (h : k < b.length) (hf : b[k] ∉ b.take k) (hm : b[k] ∉ a) : b[k] ∉ joinLT a b k := by
  simp only [joinLT, List.mem_append, List.mem_filter, not_or]
  exact ⟨hm, fun h => hf h.1⟩
theorem joinTo_get {a b : Ten} {k i : Nat} (h : i < a.dims.length) : (joinTo a b k)[i]? = a.dims[i]? := by
  rw [joinTo, List.getElem?_append_left h]
end Go.Proofs.Ytmgifmgdfldheaa
