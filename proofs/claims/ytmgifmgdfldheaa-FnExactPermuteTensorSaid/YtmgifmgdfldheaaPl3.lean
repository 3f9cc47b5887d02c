/-
  Plain lists: how far the next value of a label is, offsets as sums, the next index. No condition.
-/
import Derived.Test.YtmgifmgdfldheaaPl2
import Derived.Test.YtmgifmgdfldheaaPlain2
namespace Go.Proofs.Ytmgifmgdfldheaa
open Plain
set_option linter.unusedSimpArgs false
set_option linter.unusedVariables false

def sumI (xs : List Int) : Int := xs.foldr (· + ·) 0
theorem sumI_nil : sumI [] = 0 := rfl
theorem sumI_cons (x : Int) (xs : List Int) : sumI (x :: xs) = x + sumI xs := rfl
theorem sumI_app : ∀ (a b : List Int), sumI (a ++ b) = sumI a + sumI b
  | [], b => by simp [sumI_nil]
  | x :: a, b => by rw [List.cons_append, sumI_cons, sumI_cons, sumI_app a b]; omega
theorem sumI_map_add {α : Type} (f g : α → Int) : ∀ (l : List α), sumI (l.map fun x => f x + g x) = sumI (l.map f) + sumI (l.map g)
  | [] => rfl
  | x :: l => by simp only [List.map_cons, sumI_cons, sumI_map_add f g l]; omega
theorem sumI_map_zero {α : Type} (f : α → Int) : ∀ (l : List α), (∀ x ∈ l, f x = 0) → sumI (l.map f) = 0
  | [], _ => rfl
  | x :: l, h => by simp only [List.map_cons, sumI_cons, h x (by simp), sumI_map_zero f l (fun y hy => h y (by simp [hy]))]; rfl
theorem sumI_map_one (c l0 : Int) : ∀ (l : List Int), l.Nodup → l0 ∈ l → sumI (l.map fun x => if x = l0 then c else 0) = c
  | [], _, h => by cases h
  | x :: l, hn, hm => by
    simp only [List.nodup_cons] at hn
    simp only [List.map_cons, sumI_cons]
    by_cases hx : x = l0
    · subst hx
      rw [if_pos rfl, sumI_map_zero _ l (fun y hy => if_neg fun (e : y = x) => hn.1 (e ▸ hy))]
      omega
    · rw [if_neg hx, sumI_map_one c l0 l hn.2 (by simpa [Ne.symm hx] using hm)]
      omega
theorem sumI_nn : ∀ (l : List Int), (∀ x ∈ l, 0 ≤ x) → 0 ≤ sumI l
  | [], _ => Int.le_refl 0
  | x :: l, h => by
    rw [sumI_cons]
    have := sumI_nn l fun y hy => h y (by simp [hy])
    have := h x (by simp)
    omega
/-- How far the next value of a label is. -/
def strideL : List Int → List Int → Int → Int
  | l :: ls, d :: ds, x => if x = l then prodI ds else strideL ls ds x
  | _, _, _ => 0
theorem strideL_no : ∀ (ls ds : List Int) (x : Int), x ∉ ls → strideL ls ds x = 0
  | [], _, _, _ => by simp [strideL]
  | _ :: _, [], _, _ => by simp [strideL]
  | l :: ls, d :: ds, x, h => by
    simp only [List.mem_cons, not_or] at h
    rw [strideL, if_neg h.1, strideL_no ls ds x h.2]
theorem strideL_bd : ∀ (ls ds : List Int) (x : Int), (∀ d ∈ ds, 1 ≤ d) → 0 ≤ strideL ls ds x ∧ strideL ls ds x ≤ prodI ds
  | [], ds, _, h => by
    simp only [strideL]
    have := prodI_pos ds h
    omega
  | _ :: _, [], _, _ => by simp [strideL, prodI]
  | l :: ls, d :: ds, x, h => by
    have hp := prodI_pos ds (fun y hy => h y (by simp [hy]))
    have hd := h d (by simp)
    have hm : prodI ds ≤ d * prodI ds := by
      have := Int.mul_le_mul_of_nonneg_right hd (show 0 ≤ prodI ds by omega)
      omega
    have := strideL_bd ls ds x (fun y hy => h y (by simp [hy]))
    rw [strideL, prodI_cons]
    split <;> omega
/-- The offset of an index, from its head. -/
def offsR : List Int → List Int → Int
  | d :: ds, i :: is => i * prodI ds + offsR ds is
  | _, _ => 0
theorem offs_R {ds is : List Int} (h : is.length = ds.length) : offs ds is = offsR ds is := by
  have key : ∀ k, k ≤ ds.length → offsTo ds is k * prodI (ds.drop k) + offsR (ds.drop k) (is.drop k) = offsR ds is := by
    intro k
    induction k with
    | zero => intro _; simp [offsTo]
    | succ k ih =>
      intro hk
      rw [← ih (by omega), offsTo_succ]
      have e1 : ds.drop k = ds[k] :: ds.drop (k + 1) := List.drop_eq_getElem_cons (by omega)
      have e2 : is.drop k = is[k] :: is.drop (k + 1) := List.drop_eq_getElem_cons (by omega)
      rw [e1, e2, offsR, prodI_cons, getD_of (show k < ds.length by omega), getD_of (show k < is.length by omega), Int.add_mul, Int.mul_assoc]
      omega
  have := key ds.length (Nat.le_refl _)
  rw [← this]
  simp [offs, prodI, offsR]
/-- The offset as a sum over labels. -/
theorem offsR_sum (v : Int → Int) (L : List Int) (hL : L.Nodup) : ∀ (ls ds : List Int), ls.length = ds.length → ls.Nodup → (∀ l ∈ ls, l ∈ L) → offsR ds (ls.map v) = sumI (L.map fun l => strideL ls ds l * v l)
  | [], [], _, _, _ => by simp only [List.map_nil, offsR, strideL, Int.zero_mul]; exact (sumI_map_zero _ _ (fun _ _ => rfl)).symm
  | [], _ :: _, h, _, _ => by simp at h
  | _ :: _, [], h, _, _ => by simp at h
  | l0 :: ls, d :: ds, h, hn, hs => by
    simp only [List.nodup_cons] at hn
    simp only [List.map_cons, offsR]
    rw [offsR_sum v L hL ls ds (by simpa using h) hn.2 (fun l hl => hs l (by simp [hl]))]
    rw [← sumI_map_one (v l0 * prodI ds) l0 L hL (hs l0 (by simp)), ← sumI_map_add]
    congr 1
    refine List.map_congr_left fun l _ => ?_
    by_cases e : l = l0
    · subst e
      rw [strideL, if_pos rfl, if_pos rfl, strideL_no ls ds l hn.1]
      rw [Int.mul_comm]; omega
    · rw [strideL, if_neg e, if_neg e]; omega
theorem nodup_of_fresh {ls : List Int} (h : ∀ k (hk : k < ls.length), ls[k] ∉ ls.take k) : ls.Nodup := by
  rw [List.Nodup, List.pairwise_iff_getElem]
  intro i j hi hj hij e
  refine h j hj ?_
  rw [← e]
  exact List.mem_iff_getElem.2 ⟨i, by simp; omega, by simp⟩
theorem axOk_nodup {ls ds : List Int} (h : axOk ls ds) : ls.Nodup := nodup_of_fresh fun k hk => h.fresh hk
/-- A sum of products. -/
def dotI : List Int → List Int → Int
  | a :: xs, b :: ys => a * b + dotI xs ys
  | _, _ => 0
theorem dotI_map (f g : Int → Int) : ∀ L : List Int, dotI (L.map f) (L.map g) = sumI (L.map fun l => f l * g l)
  | [] => rfl
  | l :: L => by simp only [List.map_cons, dotI, sumI_cons, dotI_map f g L]
theorem dotI_snoc : ∀ (xs ys : List Int) (a b : Int), xs.length = ys.length → dotI (xs ++ [a]) (ys ++ [b]) = dotI xs ys + a * b
  | [], [], a, b, _ => by simp [dotI]
  | [], _ :: _, _, _, h => by simp at h
  | _ :: _, [], _, _, h => by simp at h
  | x :: xs, y :: ys, a, b, h => by
    simp only [List.cons_append, dotI]
    rw [dotI_snoc xs ys a b (by simpa using h)]
    omega
/-- What a list of values gives each label. -/
def atL (L xs : List Int) (l : Int) : Int := xs.getD (place L l).toNat 0
theorem atL_map {L xs : List Int} (hn : L.Nodup) (h : xs.length = L.length) : L.map (atL L xs) = xs := by
  refine List.ext_getElem (by simp [h]) fun k h1 h2 => ?_
  have hk : k < L.length := by simpa using h1
  have hf : L[k] ∉ L.take k := by
    intro hm
    obtain ⟨i, hi, e⟩ := List.mem_iff_getElem.1 hm
    have hi' : i < k := by simp at hi; omega
    simp at e
    exact (List.pairwise_iff_getElem.1 hn) i k (by omega) hk hi' e
  simp only [List.getElem_map, atL, place_at hk hf, Int.toNat_natCast]
  exact getD_of (by omega)

/-! ### The next index -/
theorem digits_nil (n : Int) : digits [] n = [] := rfl
theorem digits_cons (d : Int) (ds : List Int) (n : Int) : digits (d :: ds) n = ((n / prodI ds) % d) :: digits ds n := by
  simp only [digits, List.length_cons, List.range_succ_eq_map, List.map_cons, List.map_map]
  have h0 : digit (d :: ds) n 0 = n / prodI ds % d := by simp [digit]
  rw [h0]
  congr 1
theorem digits_drop : ∀ (ds : List Int) (n : Int) (i : Nat), (digits ds n).drop i = digits (ds.drop i) n
  | ds, n, 0 => by simp
  | [], n, i + 1 => by simp [digits_nil]
  | d :: ds, n, i + 1 => by rw [digits_cons, List.drop_succ_cons, List.drop_succ_cons, digits_drop ds n i]
theorem digits_bd : ∀ (ds : List Int) (n : Int), (∀ d ∈ ds, 1 ≤ d) → ∀ k, k < ds.length → 0 ≤ (digits ds n).getD k 0 ∧ (digits ds n).getD k 0 < ds.getD k 0
  | [], _, _, k, hk => by simp at hk
  | d :: ds, n, h, 0, _ => by
    have hd := h d (by simp)
    rw [digits_cons]
    simp only [List.getD_cons_zero]
    exact ⟨Int.emod_nonneg _ (by omega), Int.emod_lt_of_pos _ (by omega)⟩
  | d :: ds, n, h, k + 1, hk => by
    rw [digits_cons]
    simp only [List.getD_cons_succ]
    exact digits_bd ds n (fun y hy => h y (by simp [hy])) k (by simpa using hk)
theorem div_next {n p : Int} (hp : 0 < p) (h : (n + 1) % p ≠ 0) : (n + 1) / p = n / p := by
  have h1 := Int.emod_add_mul_ediv (n + 1) p
  have h2 := Int.emod_nonneg (n + 1) (show p ≠ 0 by omega)
  have h3 := Int.emod_lt_of_pos (n + 1) hp
  have e : n = (n + 1) % p - 1 + p * ((n + 1) / p) := by omega
  have h4 : n / p = ((n + 1) % p - 1 + p * ((n + 1) / p)) / p := congrArg (· / p) e
  rw [Int.add_mul_ediv_left _ _ (show p ≠ 0 by omega), Int.ediv_eq_zero_of_lt (show 0 ≤ (n + 1) % p - 1 by omega) (by omega)] at h4
  omega
theorem div_wrap {n p : Int} (hp : 0 < p) (h : (n + 1) % p = 0) : (n + 1) / p = n / p + 1 := by
  have h1 := Int.emod_add_mul_ediv (n + 1) p
  have e : n = p - 1 + p * ((n + 1) / p - 1) := by rw [Int.mul_sub]; omega
  have h4 : n / p = (p - 1 + p * ((n + 1) / p - 1)) / p := congrArg (· / p) e
  rw [Int.add_mul_ediv_left _ _ (show p ≠ 0 by omega), Int.ediv_eq_zero_of_lt (show 0 ≤ p - 1 by omega) (by omega)] at h4
  omega
/-- Where nothing is carried over the rest, the first digits stay. -/
theorem digits_keep : ∀ (ds : List Int) (n : Int) (i : Nat), (∀ d ∈ ds, 1 ≤ d) → (n + 1) % prodI (ds.drop i) ≠ 0 → i ≤ ds.length → (digits ds (n + 1)).take i = (digits ds n).take i
  | _, _, 0, _, _, _ => by simp
  | [], _, i + 1, _, _, h => by simp at h
  | d :: ds, n, i + 1, h, hn, hi => by
    have hds : ∀ d ∈ ds, 1 ≤ d := fun y hy => h y (by simp [hy])
    have hp := prodI_pos ds hds
    simp only [List.drop_succ_cons] at hn
    have hne : (n + 1) % prodI ds ≠ 0 := by
      intro e
      refine hn ?_
      have hdvd : prodI (ds.drop i) ∣ prodI ds := by
        have := prodI_append (ds.take i) (ds.drop i)
        rw [List.take_append_drop] at this
        rw [this]
        exact Int.dvd_mul_left _ _
      exact Int.emod_eq_zero_of_dvd (Int.dvd_trans hdvd (Int.dvd_of_emod_eq_zero e))
    rw [digits_cons, digits_cons, List.take_succ_cons, List.take_succ_cons, div_next (by omega) hne, digits_keep ds n i hds hn (by simpa using hi)]
/-- One digit more: the rest is full. -/
theorem digits_step {ds : List Int} {n : Int} {i : Nat} (h : ∀ d ∈ ds, 1 ≤ d) (hi : i < ds.length) (hw : (n + 1) % prodI (ds.drop (i + 1)) = 0) :
    ((digits ds n).getD i 0 + 1 < ds.getD i 0 → (n + 1) % prodI (ds.drop i) ≠ 0 ∧ (digits ds (n + 1)).getD i 0 = (digits ds n).getD i 0 + 1) ∧
    (¬ (digits ds n).getD i 0 + 1 < ds.getD i 0 → (n + 1) % prodI (ds.drop i) = 0 ∧ (digits ds (n + 1)).getD i 0 = 0) := by
  have e : ds.drop i = ds[i] :: ds.drop (i + 1) := List.drop_eq_getElem_cons hi
  have hdi := h ds[i] (List.getElem_mem hi)
  have hP := prodI_pos (ds.drop (i + 1)) (fun y hy => h y (List.mem_of_mem_drop hy))
  have g : ∀ m, (digits ds m).getD i 0 = (m / prodI (ds.drop (i + 1))) % ds[i] := fun m => by
    rw [digits_get _ _ _ hi, digit, getD_of hi]
  rw [g, g, getD_of hi, e, prodI_cons, div_wrap (by omega) hw]
  generalize hP' : prodI (ds.drop (i + 1)) = P at *
  generalize ds[i] = d at *
  have hq := div_wrap (n := n) (p := P) (by omega) hw
  have h1 := Int.emod_add_mul_ediv (n + 1) P
  rw [hw, hq] at h1
  have hmod : (n + 1) % (d * P) = P * ((n / P + 1) % d) := by
    rw [show n + 1 = P * (n / P + 1) by omega, Int.mul_comm d P]
    exact Int.mul_emod_mul_of_pos _ _ (by omega)
  have hb1 := Int.emod_nonneg (n / P) (show d ≠ 0 by omega)
  have hb2 := Int.emod_lt_of_pos (n / P) (show 0 < d by omega)
  have h5 := Int.emod_add_mul_ediv (n / P) d
  rw [hmod]
  constructor
  · intro hlt
    have hm : (n / P + 1) % d = (n / P) % d + 1 := by
      have e1 : n / P + 1 = ((n / P) % d + 1) + d * (n / P / d) := by omega
      have e2 := congrArg (· % d) e1
      simp only [Int.add_mul_emod_self_left] at e2
      rw [e2, Int.emod_eq_of_lt (by omega) hlt]
    rw [hm]
    refine ⟨fun e0 => ?_, rfl⟩
    rcases Int.mul_eq_zero.1 e0 with h | h <;> omega
  · intro hge
    have hm : (n / P + 1) % d = 0 := by
      have e1 : n / P + 1 = d * (n / P / d + 1) := by rw [Int.mul_add]; omega
      rw [e1]; exact Int.mul_emod_right _ _
    rw [hm]
    exact ⟨by omega, rfl⟩

/-! ### Lists of the same labels -/
theorem sub_back : ∀ {L ls : List Int}, L.Nodup → (∀ x ∈ L, x ∈ ls) → ls.length ≤ L.length → ∀ x ∈ ls, x ∈ L
  | [], ls, _, _, h, x, hx => by
    have : ls = [] := List.eq_nil_of_length_eq_zero (by simpa using h)
    rw [this] at hx; cases hx
  | l :: L, ls, hn, hs, h, x, hx => by
    simp only [List.nodup_cons] at hn
    have hl : l ∈ ls := hs l (by simp)
    by_cases e : x = l
    · simp [e]
    · have := sub_back (L := L) (ls := ls.erase l) hn.2 (fun y hy => (List.mem_erase_of_ne (fun (e : y = l) => hn.1 (e ▸ hy))).2 (hs y (by simp [hy]))) (by rw [List.length_erase_of_mem hl]; simp at h; omega) x ((List.mem_erase_of_ne e).2 hx)
      simp [this]
theorem prodI_erase {f : Int → Int} : ∀ {ls : List Int} {l : Int}, l ∈ ls → prodI (ls.map f) = f l * prodI ((ls.erase l).map f)
  | [], _, h => by cases h
  | x :: ls, l, h => by
    by_cases e : x = l
    · subst e
      simp [prodI_cons]
    · have h' : l ∈ ls := by simpa [Ne.symm e] using h
      rw [List.erase_cons_tail (by simpa using e), List.map_cons, List.map_cons, prodI_cons, prodI_cons, prodI_erase h', ← Int.mul_assoc, ← Int.mul_assoc, Int.mul_comm (f x)]
theorem prodI_sub_le {f : Int → Int} : ∀ {L ls : List Int}, L.Nodup → (∀ x ∈ L, x ∈ ls) → (∀ x ∈ ls, 1 ≤ f x) → prodI (L.map f) ≤ prodI (ls.map f)
  | [], ls, _, _, hf => by
    have := prodI_pos (ls.map f) (fun d hd => by simp only [List.mem_map] at hd; obtain ⟨x, hx, rfl⟩ := hd; exact hf x hx)
    simpa [prodI] using this
  | l :: L, ls, hn, hs, hf => by
    simp only [List.nodup_cons] at hn
    have hl : l ∈ ls := hs l (by simp)
    have ih := prodI_sub_le (L := L) (ls := ls.erase l) (f := f) hn.2 (fun y hy => (List.mem_erase_of_ne (fun (e : y = l) => hn.1 (e ▸ hy))).2 (hs y (by simp [hy]))) (fun x hx => hf x (List.mem_of_mem_erase hx))
    rw [List.map_cons, prodI_cons, prodI_erase hl]
    exact Int.mul_le_mul_of_nonneg_left ih (by have := hf l hl; omega)
/-- Elements gathered. -/
def gath (src : List Int) (wd : Nat) (f : Nat → Nat) : Nat → List Int
  | 0 => []
  | i + 1 => gath src wd f i ++ (src.drop (f i * wd)).take wd
theorem gath_congr {src : List Int} {wd : Nat} {f g : Nat → Nat} : ∀ {n : Nat}, (∀ i, i < n → f i = g i) → gath src wd f n = gath src wd g n
  | 0, _ => rfl
  | n + 1, h => by rw [gath, gath, gath_congr (n := n) (fun i hi => h i (by omega)), h n (by omega)]
theorem gath_len {src : List Int} {wd : Nat} {f : Nat → Nat} : ∀ {n : Nat}, (∀ i, i < n → f i * wd + wd ≤ src.length) → (gath src wd f n).length = n * wd
  | 0, _ => by simp [gath]
  | n + 1, h => by
    have h1 := h n (by omega)
    rw [gath, List.length_append, gath_len (n := n) (fun i hi => h i (by omega)), Nat.add_mul, Nat.one_mul]
    simp; omega
theorem gath_mem {src : List Int} {wd : Nat} {f : Nat → Nat} : ∀ {n : Nat}, ∀ x ∈ gath src wd f n, x ∈ src
  | 0, x, h => by simp [gath] at h
  | n + 1, x, h => by
    rw [gath, List.mem_append] at h
    rcases h with h | h
    · exact gath_mem (n := n) x h
    · exact List.mem_of_mem_drop (List.mem_of_mem_take h)
/-- The offset of an index that lists its values by label. -/
theorem off_labels {ls ds L xs : List Int} (hl : ls.length = ds.length) (hn : ls.Nodup) (hL : L.Nodup) (hs : ∀ l ∈ ls, l ∈ L) (hx : xs.length = L.length) :
    dotI (L.map (strideL ls ds)) xs = offs ds (ls.map (atL L xs)) := by
  rw [offs_R (by simp [hl]), offsR_sum (atL L xs) L hL ls ds hl hn hs]
  rw [← dotI_map, atL_map hL hx]
theorem atL_mem {L xs : List Int} {l : Int} (h : l ∈ L) (hx : xs.length = L.length) : ∃ k, k < L.length ∧ k < xs.length ∧ L[k]? = some l ∧ atL L xs l = xs.getD k 0 := by
  obtain ⟨k, hk, e1, e2, _⟩ := place_mem h
  exact ⟨k, hk, by omega, by rw [List.getElem?_eq_getElem hk, e2], by rw [atL, e1]; rfl⟩
end Go.Proofs.Ytmgifmgdfldheaa
