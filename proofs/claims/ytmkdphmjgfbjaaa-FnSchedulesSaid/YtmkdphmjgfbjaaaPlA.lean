/-
 Lists of which a part has been written: the first k members are the new ones. No condition.
-/
import Derived.Test.YtmkdphmjgfbjaaaLift28
import Derived.Test.YtmkdphmjgfbjaaaPlainA
set_option linter.unusedSimpArgs false
set_option linter.unusedVariables false
namespace Go.Proofs.Ytmkdphmjgfbjaaa
theorem Sz.up {m : Nat} {xs : List Int} (h : Sz 1048576 xs) (hm : 1048576 ≤ m := by omega) : Sz m xs := ⟨Nat.le_trans h.len hm, h.wf⟩
theorem TSz.up {m : Nat} {t : Ten} (h : TSz 1048576 t) (hm : 1048576 ≤ m := by omega) : TSz m t := ⟨h.l.up hm, h.d.up hm, h.x.up hm⟩
def mix (l r : List Int) (k : Nat) : List Int := l.take k ++ r.drop k
section
variable {l r : List Int} {k : Nat}
theorem mix_zero : mix l r 0 = r := by simp [mix]
theorem mix_full (h : r.length ≤ k) (h' : l.length ≤ k) : mix l r k = l := by simp [mix, List.drop_eq_nil_of_le h, List.take_of_length_le h']
theorem mix_len (h : l.length = r.length) : (mix l r k).length = l.length := by simp [mix]; omega
theorem mix_next {x : Int} (h : l.length = r.length) (hx : l[k]? = some x) : (mix l r k).take k ++ [x] ++ (mix l r k).drop (k + 1) = mix l r (k + 1) := by
 have hk : k < l.length := (List.getElem?_eq_some_iff.1 hx).1
 have e : x = l[k] := by rw [List.getElem?_eq_getElem hk] at hx; simpa using hx.symm
 subst e
 unfold mix
 rw [List.take_append_of_le_length (by simp; omega), List.take_of_length_le (by simp; omega), List.drop_append, List.drop_eq_nil_of_le (by simp; omega), List.nil_append, List.drop_drop, List.take_succ_eq_append_getElem hk,
  List.append_assoc, List.append_assoc, List.length_take, show k + (k + 1 - min k l.length) = k + 1 by omega]
theorem put_set {n : Nat} {x : Int} {xs : List Int} (h : n < xs.length) : xs.take n ++ [x] ++ xs.drop (n + 1) = xs.set n x := by
 rw [List.set_eq_take_append_cons_drop, if_pos h, List.append_assoc]
 rfl
end
end Go.Proofs.Ytmkdphmjgfbjaaa
namespace Go.Proofs.Ytmkdphmjgfbjaaa
open Plain
theorem take_ss {α : Type} {xs : List α} {k : Nat} (h : k < xs.length) : xs.take (k + 1) = xs.take k ++ [xs[k]] := List.take_succ_eq_append_getElem h
theorem filter_yes {α : Type} {xs : List α} {k : Nat} {p : α → Bool} (h : k < xs.length) (hp : p xs[k] = true) : (xs.take (k + 1)).filter p = (xs.take k).filter p ++ [xs[k]] := by
 rw [take_ss h, List.filter_append]; simp [hp]
theorem filter_no {α : Type} {xs : List α} {k : Nat} {p : α → Bool} (h : k < xs.length) (hp : p xs[k] = false) : (xs.take (k + 1)).filter p = (xs.take k).filter p := by
 rw [take_ss h, List.filter_append]; simp [hp]
theorem filter_len {α : Type} (xs : List α) (k : Nat) (p : α → Bool) : ((xs.take k).filter p).length ≤ xs.length := by
 have := List.length_filter_le p (xs.take k)
 have := List.length_take_le k xs
 simp at *; omega
theorem getD_of {xs : List Int} {k : Nat} (h : k < xs.length) : xs.getD k 0 = xs[k] := by simp [h]
theorem place_at {xs : List Int} {k : Nat} (hk : k < xs.length) (h : xs[k] ∉ xs.take k) : place xs xs[k] = k := by
 have := place_yes (xs := xs) (k := k) hk (by rw [getD_of hk]; exact h)
 rwa [getD_of hk] at this
theorem place_mem {xs : List Int} {x : Int} (h : x ∈ xs) : ∃ k : Nat, ∃ hk : k < xs.length, place xs x = k ∧ xs[k] = x ∧ x ∉ xs.take k := by
 refine ⟨xs.idxOf x, List.idxOf_lt_length_of_mem h, by simp [place, h], List.getElem_idxOf _, fun hm => ?_⟩
 have h1 : xs.idxOf x = (xs.take (xs.idxOf x) ++ xs.drop (xs.idxOf x)).idxOf x := by rw [List.take_append_drop]
 rw [List.idxOf_append, if_pos hm] at h1
 have h2 := List.idxOf_lt_length_of_mem hm
 rw [List.length_take] at h2
 omega
theorem not_mem_take {xs : List Int} {k : Nat} {x : Int} (h : k < xs.length) (h1 : x ∉ xs.take k) (h2 : x ≠ xs[k]) : x ∉ xs.take (k + 1) := by
 rw [take_ss h, List.mem_append]; simp [h1, h2]
def dimAt (t : Ten) (l : Int) : Int := t.dims.getD (place t.labels l).toNat 0
def joinL (a b : List Int) : List Int := a ++ b.filter fun x => !has a x
def joinD (a b : Ten) : List Int := (joinL a.labels b.labels).map fun l => if has a.labels l = true then dimAt a l else dimAt b l
def joinOk (a b : Ten) : Bool := (joinL a.labels b.labels).all fun l => !(has a.labels l && has b.labels l && dimAt a l != dimAt b l)
theorem Plain.axOk.len {ls ds : List Int} (h : axOk ls ds) : ls.length = ds.length := h.2.1
theorem Plain.axOk.fresh {ls ds : List Int} (h : axOk ls ds) {k : Nat} (hk : k < ls.length) : ls[k] ∉ ls.take k := by
 have := (h.2.2 k hk).2.2.2.2
 rwa [getD_of hk] at this
theorem dimAt_get {t : Ten} (h : t.labels.length = t.dims.length) {l : Int} (hl : l ∈ t.labels) : ∃ i : Nat, i < t.labels.length ∧ i < t.dims.length ∧ place t.labels l = i ∧ t.dims[i]? = some (dimAt t l) := by
 obtain ⟨i, hi, e, _, _⟩ := place_mem hl
 refine ⟨i, hi, by omega, e, ?_⟩
 have hi' : i < t.dims.length := by omega
 simp [dimAt, e, hi']
theorem dimAt_at {t : Ten} (h : axOk t.labels t.dims) {k : Nat} (hk : k < t.labels.length) (hk' : k < t.dims.length) : dimAt t t.labels[k] = t.dims[k] := by
 simp [dimAt, place_at hk (h.fresh hk), hk']
theorem dims_map {t : Ten} (h : axOk t.labels t.dims) : t.labels.map (dimAt t) = t.dims := by
 refine List.ext_getElem (by simp [h.len]) fun k h1 h2 => ?_
 rw [List.getElem_map]
 exact dimAt_at h (by simpa using h1) h2
theorem mem_joinL {a b : List Int} {x : Int} : x ∈ joinL a b ↔ x ∈ a ∨ x ∈ b := by
 simp only [joinL, List.mem_append, List.mem_filter, Bool.not_eq_true', has_false]
 by_cases h : x ∈ a <;> simp [h]
theorem dimAt_bd {t : Ten} (h : axOk t.labels t.dims) {l : Int} (hl : l ∈ t.labels) : 1 ≤ dimAt t l ∧ dimAt t l ≤ 8 := by
 obtain ⟨i, _, hi, _, e⟩ := dimAt_get h.len hl
 rw [List.getElem?_eq_getElem hi] at e
 simp at e
 rw [← e]
 exact h.dim _ (List.getElem_mem _)
def mulAt (r : Rg) (out : List Int) (i j : Nat) (a b : Int) : List Int :=
 if i + j < out.length then out.set (i + j) ((out.getD (i + j) 0 + a * b).tmod r.p)
 else if r.k = 8 then out.set (i + j - 4) ((out.getD (i + j - 4) 0 + (r.p - a) * b).tmod r.p) else out
def mulRowTo (r : Rg) (y : List Int) (i : Nat) (a : Int) (out : List Int) : Nat → List Int
 | 0 => out
 | j + 1 => mulAt r (mulRowTo r y i a out j) i j a (y.getD j 0)
def mulTo (r : Rg) (x y out : List Int) : Nat → List Int
 | 0 => out
 | i + 1 => mulRowTo r y i (x.getD i 0) (mulTo r x y out i) y.length
def iMulAt (r : Rg) (out : List Int) (i j : Nat) (a b : Int) : List Int :=
 if i + j < out.length then out.set (i + j) ((out.getD (i + j) 0 + (a * b).tmod r.p).tmod r.p)
 else if r.k = 8 then out.set (i + j - 4) ((out.getD (i + j - 4) 0 + r.p - (a * b).tmod r.p).tmod r.p) else out
def iMulRowTo (r : Rg) (y : List Int) (i : Nat) (a : Int) (out : List Int) : Nat → List Int
 | 0 => out
 | j + 1 => iMulAt r (iMulRowTo r y i a out j) i j a (y.getD j 0)
def iMulTo (r : Rg) (x y out : List Int) : Nat → List Int
 | 0 => out
 | i + 1 => iMulRowTo r y i (x.getD i 0) (iMulTo r x y out i) y.length
def lowP (p : Int) (xs : List Int) : Prop := ∀ k, k < xs.length → 0 ≤ xs.getD k 0 ∧ xs.getD k 0 < p
theorem lowP.at {p : Int} {xs : List Int} (h : lowP p xs) (hp : 0 < p) (k : Nat) : 0 ≤ xs.getD k 0 ∧ xs.getD k 0 < p := by
 by_cases hk : k < xs.length
 ·exact h k hk
 ·simp [List.getD_eq_getElem?_getD, List.getElem?_eq_none (Nat.le_of_not_lt hk), hp]
theorem lowP.mem {p : Int} {xs : List Int} (h : lowP p xs) : ∀ x ∈ xs, 0 ≤ x ∧ x < p := by
 intro x hx
 obtain ⟨k, hk, rfl⟩ := List.getElem_of_mem hx
 have := h k hk
 simpa [List.getD_eq_getElem?_getD, hk] using this
theorem lowP.set {p : Int} {xs : List Int} {n : Nat} {v : Int} (h : lowP p xs) (hv : 0 ≤ v ∧ v < p) : lowP p (xs.set n v) := by
 intro k hk
 have hk' : k < xs.length := by simpa using hk
 rw [List.getD_eq_getElem?_getD, List.getElem?_set]
 split
 ·split
  ·simpa using hv
  ·simp; omega
 ·exact h k hk'
theorem lowP_rep {p : Int} (hp : 0 < p) (n : Nat) : lowP p (List.replicate n 0) := by
 intro k hk
 simp [List.getD_eq_getElem?_getD]
 have : k < n := by simpa using hk
 simp [this, hp]
theorem mul_nn {a b p : Int} (ha : 0 ≤ a ∧ a < p) (hb : 0 ≤ b ∧ b < p) (hp : p ≤ 1000003) : 0 ≤ a * b ∧ a * b ≤ 1000006000009 := by
 refine ⟨Int.mul_nonneg ha.1 hb.1, ?_⟩
 have h1 : a * b ≤ a * 1000003 := Int.mul_le_mul_of_nonneg_left (by omega) ha.1
 omega
theorem tm {a p : Int} (h : 0 ≤ a) : a.tmod p = a % p := Int.tmod_eq_emod_of_nonneg h
theorem tmb {a p : Int} (h : 0 ≤ a) (hp : 0 < p) : 0 ≤ a.tmod p ∧ a.tmod p < p := by
 rw [tm h]; exact ⟨Int.emod_nonneg _ (by omega), Int.emod_lt_of_pos _ hp⟩
theorem mulAt_eq {r : Rg} {out : List Int} {i j : Nat} {a b : Int} (hp : 2 ≤ r.p ∧ r.p ≤ 1000003) (ho : lowP r.p out) (ha : 0 ≤ a ∧ a < r.p) (hb : 0 ≤ b ∧ b < r.p) :
  iMulAt r out i j a b = mulAt r out i j a b ∧ lowP r.p (mulAt r out i j a b) ∧ (mulAt r out i j a b).length = out.length := by
 have hab := mul_nn ha hb hp.2
 have hm := tmb hab.1 (show 0 < r.p by omega)
 have h1 := ho.at (by omega) (i + j)
 have h2 := ho.at (by omega) (i + j - 4)
 have hpa : 0 ≤ (r.p - a) * b := Int.mul_nonneg (by omega) hb.1
 unfold iMulAt mulAt
 refine ⟨?_, ?_, ?_⟩
 ·split
  ·congr 1
   rw [tm hab.1] at hm ⊢
   rw [tm (show 0 ≤ out.getD (i + j) 0 + a * b % r.p by omega), tm (show 0 ≤ out.getD (i + j) 0 + a * b by omega)]
   rw [Int.add_emod, Int.emod_emod_of_dvd _ (Int.dvd_refl _), ← Int.add_emod]
  ·split
   ·congr 1
    rw [tm hab.1] at hm ⊢
    rw [tm (show 0 ≤ out.getD (i + j - 4) 0 + r.p - a * b % r.p by omega), tm (show 0 ≤ out.getD (i + j - 4) 0 + (r.p - a) * b by omega)]
    have e : (r.p - a) * b = r.p * b - a * b := Int.sub_mul ..
    rw [e]
    have e1 : out.getD (i + j - 4) 0 + r.p - a * b % r.p = out.getD (i + j - 4) 0 + (r.p - a * b % r.p) := by omega
    have e2 : out.getD (i + j - 4) 0 + (r.p * b - a * b) = (out.getD (i + j - 4) 0 - a * b) + r.p * b := by omega
    rw [e1, e2, Int.add_mul_emod_self_left]
    have e3 : out.getD (i + j - 4) 0 + (r.p - a * b % r.p) = (out.getD (i + j - 4) 0 - a * b % r.p) + r.p * 1 := by omega
    rw [e3, Int.add_mul_emod_self_left, Int.sub_emod, Int.emod_emod_of_dvd _ (Int.dvd_refl _), ← Int.sub_emod]
   ·rfl
 ·split
  ·exact ho.set (tmb (by omega) (by omega))
  ·split
   ·exact ho.set (tmb (by omega) (by omega))
   ·exact ho
 ·split
  ·simp
  ·split <;> simp
theorem mulRowTo_eq {r : Rg} {y out : List Int} {i : Nat} {a : Int} (hp : 2 ≤ r.p ∧ r.p ≤ 1000003) (ho : lowP r.p out) (ha : 0 ≤ a ∧ a < r.p) (hy : lowP r.p y) :
  ∀ j, iMulRowTo r y i a out j = mulRowTo r y i a out j ∧ lowP r.p (mulRowTo r y i a out j) ∧ (mulRowTo r y i a out j).length = out.length
 | 0 => ⟨rfl, ho, rfl⟩
 | j + 1 => by
  obtain ⟨h1, h2, h3⟩ := mulRowTo_eq hp ho ha hy j
  obtain ⟨h4, h5, h6⟩ := mulAt_eq (i := i) (j := j) hp h2 ha (hy.at (by omega) j)
  refine ⟨?_, h5, h6.trans h3⟩
  rw [iMulRowTo, h1, h4]; rfl
theorem mulTo_eq {r : Rg} {x y out : List Int} (hp : 2 ≤ r.p ∧ r.p ≤ 1000003) (ho : lowP r.p out) (hx : lowP r.p x) (hy : lowP r.p y) :
  ∀ i, iMulTo r x y out i = mulTo r x y out i ∧ lowP r.p (mulTo r x y out i) ∧ (mulTo r x y out i).length = out.length
 | 0 => ⟨rfl, ho, rfl⟩
 | i + 1 => by
  obtain ⟨h1, h2, h3⟩ := mulTo_eq hp ho hx hy i
  obtain ⟨h4, h5, h6⟩ := mulRowTo_eq (i := i) hp h2 (hx.at (by omega) i) hy y.length
  refine ⟨?_, h5, h6.trans h3⟩
  rw [iMulTo, h1, h4]; rfl
def andI (a b : Int) : Int := IntKind.i64.wrap (BitVec.ofInt 64 a &&& BitVec.ofInt 64 b).toNat
def orI (a b : Int) : Int := IntKind.i64.wrap (BitVec.ofInt 64 a ||| BitVec.ofInt 64 b).toNat
def mulE (r : Rg) (x y : List Int) : List Int :=
 if r.k = 1 ∨ r.k = 5 then [min (x.getD 0 0) (y.getD 0 0)]
 else if r.k = 2 then [(x.getD 0 0 * y.getD 0 0).tmod r.p]
 else if r.k = 3 then [min (x.getD 0 0 * y.getD 0 0) r.p]
 else if r.k = 4 then [min (x.getD 0 0 + y.getD 0 0) r.p]
 else if r.k = 6 then [andI (x.getD 0 0) (y.getD 0 0)]
 else mulTo r x y (List.replicate x.length 0) x.length
theorem wrap_bd (x : Int) : I64 (IntKind.i64.wrap x) := by
 rw [IntKind.wrap_i64]; constructor <;> omega
theorem elem_low {r : Rg} {x : List Int} (hr : ringOk r = true) (h : fits r x) (hk : r.k = 2 ∨ r.k = 7 ∨ r.k = 8) : lowP r.p x ∧ 2 ≤ r.p ∧ r.p ≤ 1000003 := by
 have ht : top r = r.p - 1 := by unfold top; rw [if_neg (by omega), if_neg (by omega), if_neg (by omega)]
 have hp : 2 ≤ r.p ∧ r.p ≤ 1000003 := by rcases ringOk_cases hr with h | h | h | h | h | h | h | h <;> first | omega | exact isPrime_bd h.2.1
 exact ⟨fun k hk => by have := h k hk; omega, hp⟩
theorem elem_wd1 {r : Rg} (hr : ringOk r = true) (hk : ¬ (r.k = 7 ∨ r.k = 8)) : width r = 1 := by
 unfold width
 rw [if_neg (by omega), if_neg (by omega)]
theorem mulE_facts {r : Rg} {x y : List Int} {wd : Nat} (hr : ringOk r = true) (hw : width r = wd) (hx : fits r x) (hy : fits r y) (lx : x.length = wd) (ly : y.length = wd) : (mulE r x y).length = wd ∧ ∀ z ∈ mulE r x y, I64 z := by
 have hwb := width_bd hr
 have htb := top_bd hr
 have x0 := hx 0 (by omega)
 have y0 := hy 0 (by omega)
 unfold mulE
 by_cases h7 : r.k = 7 ∨ r.k = 8
 ·rw [if_neg (by omega), if_neg (by omega), if_neg (by omega), if_neg (by omega), if_neg (by omega)]
  obtain ⟨hlx, hp⟩ := elem_low hr hx (by omega)
  obtain ⟨hly, _⟩ := elem_low hr hy (by omega)
  obtain ⟨_, h1, h2⟩ := mulTo_eq hp (lowP_rep (by omega) x.length) hlx hly x.length
  refine ⟨by rw [h2]; simpa using lx, fun z hz => ?_⟩
  have := h1.mem z hz
  exact ⟨by omega, by omega⟩
 ·have hw1 := elem_wd1 hr h7
  have hwd : wd = 1 := by omega
  subst hwd
  have hmm : 0 ≤ x.getD 0 0 * y.getD 0 0 := Int.mul_nonneg x0.1 y0.1
  have hmb : x.getD 0 0 * y.getD 0 0 ≤ x.getD 0 0 * 1048576 := Int.mul_le_mul_of_nonneg_left (by omega) x0.1
  split
  ·exact ⟨rfl, fun z hz => by simp only [List.mem_singleton] at hz; subst hz; exact ⟨by omega, by omega⟩⟩
  ·split
   ·refine ⟨rfl, fun z hz => ?_⟩
    simp only [List.mem_singleton] at hz
    obtain ⟨_, hp⟩ := elem_low hr hx (by omega)
    have := tmb hmm (show 0 < r.p by omega)
    subst hz
    exact ⟨by omega, by omega⟩
   ·have hp : r.k = 3 ∨ r.k = 4 → 1 ≤ r.p ∧ r.p ≤ 1000000 := fun h => by rcases ringOk_cases hr with h | h | h | h | h | h | h | h <;> omega
    split
    ·refine ⟨rfl, fun z hz => ?_⟩
     simp only [List.mem_singleton] at hz
     have := hp (.inl (by assumption))
     subst hz
     exact ⟨by omega, by omega⟩
    ·split
     ·refine ⟨rfl, fun z hz => ?_⟩
      simp only [List.mem_singleton] at hz
      have := hp (.inr (by assumption))
      subst hz
      exact ⟨by omega, by omega⟩
     ·rw [if_pos (by rcases ringOk_cases hr with h | h | h | h | h | h | h | h <;> omega)]
      refine ⟨rfl, fun z hz => ?_⟩
      simp only [List.mem_singleton] at hz
      subst hz
      exact wrap_bd _
def sumI (xs : List Int) : Int := xs.foldr (· + ·) 0
theorem sumI_nil : sumI [] = 0 := rfl
theorem sumI_cons (x : Int) (xs : List Int) : sumI (x :: xs) = x + sumI xs := rfl
theorem sumI_app : ∀ (a b : List Int), sumI (a ++ b) = sumI a + sumI b
 | [], b => by simp [sumI_nil]
 | x :: a, b => by rw [List.cons_append, sumI_cons, sumI_cons, sumI_app a b]; omega
theorem sumI_map_add {α : Type} (f g : α → Int) : ∀ (l : List α), sumI (l.map fun x => f x + g x) = sumI (l.map f) + sumI (l.map g)
 | [] => rfl
 | x :: l => by simp only [List.map_cons, sumI_cons, sumI_map_add f g l]; omega
theorem sumI_map_zero {α : Type} (f : α → Int) : ∀ (l : List α), (∀ x ∈ l, f x = 0) → sumI (l.map f) = 0
 | [], _ => rfl
 | x :: l, h => by simp only [List.map_cons, sumI_cons, h x (by simp), sumI_map_zero f l (fun y hy => h y (by simp [hy]))]; rfl
theorem sumI_map_one (c l0 : Int) : ∀ (l : List Int), l.Nodup → l0 ∈ l → sumI (l.map fun x => if x = l0 then c else 0) = c
 | [], _, h => by cases h
 | x :: l, hn, hm => by
  simp only [List.nodup_cons] at hn
  simp only [List.map_cons, sumI_cons]
  by_cases hx : x = l0
  ·subst hx
   rw [if_pos rfl, sumI_map_zero _ l (fun y hy => if_neg fun (e : y = x) => hn.1 (e ▸ hy))]
   omega
  ·rw [if_neg hx, sumI_map_one c l0 l hn.2 (by simpa [Ne.symm hx] using hm)]
   omega
theorem sumI_nn : ∀ (l : List Int), (∀ x ∈ l, 0 ≤ x) → 0 ≤ sumI l
 | [], _ => Int.le_refl 0
 | x :: l, h => by
  rw [sumI_cons]
  have := sumI_nn l fun y hy => h y (by simp [hy])
  have := h x (by simp)
  omega
def strideL : List Int → List Int → Int → Int
 | l :: ls, d :: ds, x => if x = l then prodI ds else strideL ls ds x
 | _, _, _ => 0
theorem strideL_no : ∀ (ls ds : List Int) (x : Int), x ∉ ls → strideL ls ds x = 0
 | [], _, _, _ => by simp [strideL]
 | _ :: _, [], _, _ => by simp [strideL]
 | l :: ls, d :: ds, x, h => by
  simp only [List.mem_cons, not_or] at h
  rw [strideL, if_neg h.1, strideL_no ls ds x h.2]
def offsR : List Int → List Int → Int
 | d :: ds, i :: is => i * prodI ds + offsR ds is
 | _, _ => 0
theorem offs_R {ds is : List Int} (h : is.length = ds.length) : offs ds is = offsR ds is := by
 have key : ∀ k, k ≤ ds.length → offsTo ds is k * prodI (ds.drop k) + offsR (ds.drop k) (is.drop k) = offsR ds is := by
  intro k
  induction k with
  | zero => intro _; simp [offsTo]
  | succ k ih =>
   intro hk
   rw [← ih (by omega), offsTo_succ]
   have e1 : ds.drop k = ds[k] :: ds.drop (k + 1) := List.drop_eq_getElem_cons (by omega)
   have e2 : is.drop k = is[k] :: is.drop (k + 1) := List.drop_eq_getElem_cons (by omega)
   rw [e1, e2, offsR, prodI_cons, getD_of (show k < ds.length by omega), getD_of (show k < is.length by omega), Int.add_mul, Int.mul_assoc]
   omega
 have := key ds.length (Nat.le_refl _)
 rw [← this]
 simp [offs, prodI, offsR]
theorem offsR_sum (v : Int → Int) (L : List Int) (hL : L.Nodup) : ∀ (ls ds : List Int), ls.length = ds.length → ls.Nodup → (∀ l ∈ ls, l ∈ L) → offsR ds (ls.map v) = sumI (L.map fun l => strideL ls ds l * v l)
 | [], [], _, _, _ => by simp only [List.map_nil, offsR, strideL, Int.zero_mul]; exact (sumI_map_zero _ _ (fun _ _ => rfl)).symm
 | [], _ :: _, h, _, _ => by simp at h
 | _ :: _, [], h, _, _ => by simp at h
 | l0 :: ls, d :: ds, h, hn, hs => by
  simp only [List.nodup_cons] at hn
  simp only [List.map_cons, offsR]
  rw [offsR_sum v L hL ls ds (by simpa using h) hn.2 (fun l hl => hs l (by simp [hl]))]
  rw [← sumI_map_one (v l0 * prodI ds) l0 L hL (hs l0 (by simp)), ← sumI_map_add]
  congr 1
  refine List.map_congr_left fun l _ => ?_
  by_cases e : l = l0
  ·subst e
   rw [strideL, if_pos rfl, if_pos rfl, strideL_no ls ds l hn.1]
   rw [Int.mul_comm]; omega
  ·rw [strideL, if_neg e, if_neg e]; omega
theorem nodup_of_fresh {ls : List Int} (h : ∀ k (hk : k < ls.length), ls[k] ∉ ls.take k) : ls.Nodup := by
 rw [List.Nodup, List.pairwise_iff_getElem]
 intro i j hi hj hij e
 refine h j hj ?_
 rw [← e]
 exact List.mem_iff_getElem.2 ⟨i, by simp; omega, by simp⟩
theorem axOk_nodup {ls ds : List Int} (h : axOk ls ds) : ls.Nodup := nodup_of_fresh fun k hk => h.fresh hk
def dotI : List Int → List Int → Int
 | a :: xs, b :: ys => a * b + dotI xs ys
 | _, _ => 0
theorem dotI_map (f g : Int → Int) : ∀ L : List Int, dotI (L.map f) (L.map g) = sumI (L.map fun l => f l * g l)
 | [] => rfl
 | l :: L => by simp only [List.map_cons, dotI, sumI_cons, dotI_map f g L]
def atL (L xs : List Int) (l : Int) : Int := xs.getD (place L l).toNat 0
theorem atL_map {L xs : List Int} (hn : L.Nodup) (h : xs.length = L.length) : L.map (atL L xs) = xs := by
 refine List.ext_getElem (by simp [h]) fun k h1 h2 => ?_
 have hk : k < L.length := by simpa using h1
 have hf : L[k] ∉ L.take k := by
  intro hm
  obtain ⟨i, hi, e⟩ := List.mem_iff_getElem.1 hm
  have hi' : i < k := by simp at hi; omega
  simp at e
  exact (List.pairwise_iff_getElem.1 hn) i k (by omega) hk hi' e
 simp only [List.getElem_map, atL, place_at hk hf, Int.toNat_natCast]
 exact getD_of (by omega)
theorem digits_nil (n : Int) : digits [] n = [] := rfl
theorem digits_cons (d : Int) (ds : List Int) (n : Int) : digits (d :: ds) n = ((n / prodI ds) % d) :: digits ds n := by
 simp only [digits, List.length_cons, List.range_succ_eq_map, List.map_cons, List.map_map]
 have h0 : digit (d :: ds) n 0 = n / prodI ds % d := by simp [digit]
 rw [h0]
 congr 1
theorem digits_bd : ∀ (ds : List Int) (n : Int), (∀ d ∈ ds, 1 ≤ d) → ∀ k, k < ds.length → 0 ≤ (digits ds n).getD k 0 ∧ (digits ds n).getD k 0 < ds.getD k 0
 | [], _, _, k, hk => by simp at hk
 | d :: ds, n, h, 0, _ => by
  have hd := h d (by simp)
  rw [digits_cons]
  simp only [List.getD_cons_zero]
  exact ⟨Int.emod_nonneg _ (by omega), Int.emod_lt_of_pos _ (by omega)⟩
 | d :: ds, n, h, k + 1, hk => by
  rw [digits_cons]
  simp only [List.getD_cons_succ]
  exact digits_bd ds n (fun y hy => h y (by simp [hy])) k (by simpa using hk)
theorem sub_back : ∀ {L ls : List Int}, L.Nodup → (∀ x ∈ L, x ∈ ls) → ls.length ≤ L.length → ∀ x ∈ ls, x ∈ L
 | [], ls, _, _, h, x, hx => by
  have : ls = [] := List.eq_nil_of_length_eq_zero (by simpa using h)
  rw [this] at hx; cases hx
 | l :: L, ls, hn, hs, h, x, hx => by
  simp only [List.nodup_cons] at hn
  have hl : l ∈ ls := hs l (by simp)
  by_cases e : x = l
  ·simp [e]
  ·have := sub_back (L := L) (ls := ls.erase l) hn.2 (fun y hy => (List.mem_erase_of_ne (fun (e : y = l) => hn.1 (e ▸ hy))).2 (hs y (by simp [hy]))) (by rw [List.length_erase_of_mem hl]; simp at h; omega) x ((List.mem_erase_of_ne e).2 hx)
   simp [this]
theorem prodI_erase {f : Int → Int} : ∀ {ls : List Int} {l : Int}, l ∈ ls → prodI (ls.map f) = f l * prodI ((ls.erase l).map f)
 | [], _, h => by cases h
 | x :: ls, l, h => by
  by_cases e : x = l
  ·subst e
   simp [prodI_cons]
  ·have h' : l ∈ ls := by simpa [Ne.symm e] using h
   rw [List.erase_cons_tail (by simpa using e), List.map_cons, List.map_cons, prodI_cons, prodI_cons, prodI_erase h', ← Int.mul_assoc, ← Int.mul_assoc, Int.mul_comm (f x)]
theorem prodI_sub_le {f : Int → Int} : ∀ {L ls : List Int}, L.Nodup → (∀ x ∈ L, x ∈ ls) → (∀ x ∈ ls, 1 ≤ f x) → prodI (L.map f) ≤ prodI (ls.map f)
 | [], ls, _, _, hf => by
  have := prodI_pos (ls.map f) (fun d hd => by simp only [List.mem_map] at hd; obtain ⟨x, hx, rfl⟩ := hd; exact hf x hx)
  simpa [prodI] using this
 | l :: L, ls, hn, hs, hf => by
  simp only [List.nodup_cons] at hn
  have hl : l ∈ ls := hs l (by simp)
  have ih := prodI_sub_le (L := L) (ls := ls.erase l) (f := f) hn.2 (fun y hy => (List.mem_erase_of_ne (fun (e : y = l) => hn.1 (e ▸ hy))).2 (hs y (by simp [hy]))) (fun x hx => hf x (List.mem_of_mem_erase hx))
  rw [List.map_cons, prodI_cons, prodI_erase hl]
  exact Int.mul_le_mul_of_nonneg_left ih (by have := hf l hl; omega)
def gath (src : List Int) (wd : Nat) (f : Nat → Nat) : Nat → List Int
 | 0 => []
 | i + 1 => gath src wd f i ++ (src.drop (f i * wd)).take wd
theorem off_labels {ls ds L xs : List Int} (hl : ls.length = ds.length) (hn : ls.Nodup) (hL : L.Nodup) (hs : ∀ l ∈ ls, l ∈ L) (hx : xs.length = L.length) :
  dotI (L.map (strideL ls ds)) xs = offs ds (ls.map (atL L xs)) := by
 rw [offs_R (by simp [hl]), offsR_sum (atL L xs) L hL ls ds hl hn hs]
 rw [← dotI_map, atL_map hL hx]
theorem atL_mem {L xs : List Int} {l : Int} (h : l ∈ L) (hx : xs.length = L.length) : ∃ k, k < L.length ∧ k < xs.length ∧ L[k]? = some l ∧ atL L xs l = xs.getD k 0 := by
 obtain ⟨k, hk, e1, e2, _⟩ := place_mem h
 exact ⟨k, hk, by omega, by rw [List.getElem?_eq_getElem hk, e2], by rw [atL, e1]; rfl⟩
theorem nodup_at {L : List Int} (h : L.Nodup) {i j : Nat} (hi : i < L.length) (hj : j < L.length) (e : L[i] = L[j]) : i = j := by
 rcases Nat.lt_trichotomy i j with h1 | h1 | h1
 ·exact absurd e (List.pairwise_iff_getElem.1 h i j hi hj h1)
 ·exact h1
 ·exact absurd e.symm (List.pairwise_iff_getElem.1 h j i hj hi h1)
theorem fresh_of {L : List Int} (h : L.Nodup) {k : Nat} (hk : k < L.length) : L[k] ∉ L.take k := by
 intro hm
 obtain ⟨i, hi, e⟩ := List.mem_iff_getElem.1 hm
 have hi' : i < k := by simp at hi; omega
 simp at e
 have := nodup_at h (by omega) hk e
 omega
theorem range_app (a : Nat) : ∀ b, List.range (a + b) = List.range a ++ (List.range b).map (a + ·)
 | 0 => by simp
 | b + 1 => by
  rw [← Nat.add_assoc, List.range_succ, range_app a b, List.range_succ, List.map_append, List.append_assoc]; rfl
theorem range_mul (b : Nat) : ∀ a, List.range (a * b) = (List.range a).flatMap fun x => (List.range b).map (x * b + ·)
 | 0 => by simp
 | a + 1 => by
  rw [Nat.add_mul, Nat.one_mul, range_app, range_mul b a, List.range_succ, List.flatMap_append]
  simp
theorem flatMap_one {A : List Nat} : ∀ {d v : Nat}, v < d → ((List.range d).flatMap fun x => if x = v then A else []) = A
 | 0, _, h => absurd h (Nat.not_lt_zero _)
 | d + 1, v, h => by
  rw [List.range_succ, List.flatMap_append]
  by_cases e : v = d
  ·subst e
   have : ((List.range v).flatMap fun x => if x = v then A else []) = [] := by
    rw [List.flatMap_eq_nil_iff]
    intro x hx
    have : x < v := by simpa using hx
    rw [if_neg (by omega)]
   rw [this]
   simp
  ·rw [flatMap_one (d := d) (by omega)]
   simp [Ne.symm e]
theorem flatMap_congr' {α β : Type} {f g : α → List β} : ∀ {l : List α}, (∀ x ∈ l, f x = g x) → l.flatMap f = l.flatMap g
 | [], _ => rfl
 | x :: l, h => by rw [List.flatMap_cons, List.flatMap_cons, h x (by simp), flatMap_congr' (fun y hy => h y (by simp [hy]))]
def prodN (ds : List Int) : Nat := (prodI ds).toNat
theorem prodN_eq {ds : List Int} (h : ∀ d ∈ ds, 1 ≤ d) : prodI ds = prodN ds ∧ 1 ≤ prodN ds := by
 have := prodI_pos ds h
 unfold prodN
 omega
theorem prodN_cons {d : Int} {ds : List Int} (h : ∀ x ∈ d :: ds, 1 ≤ x) : prodN (d :: ds) = d.toNat * prodN ds := by
 have h1 := h d (by simp)
 have h2 := prodI_pos ds (fun x hx => h x (by simp [hx]))
 unfold prodN
 rw [prodI_cons]
 have e : d * prodI ds = ((d.toNat * (prodI ds).toNat : Nat) : Int) := by push_cast; rw [Int.toNat_of_nonneg (by omega), Int.toNat_of_nonneg (by omega)]
 rw [e]; rfl
theorem digits_per : ∀ (ds : List Int) (x y : Int), (∀ d ∈ ds, 1 ≤ d) → digits ds (x * prodI ds + y) = digits ds y
 | [], _, _, _ => rfl
 | d :: ds, x, y, h => by
  have hds : ∀ d ∈ ds, 1 ≤ d := fun z hz => h z (by simp [hz])
  have hp := prodI_pos ds hds
  rw [digits_cons, digits_cons, prodI_cons]
  have e : x * (d * prodI ds) + y = (x * d) * prodI ds + y := by rw [Int.mul_assoc]
  rw [e, digits_per ds (x * d) y hds, Int.add_comm, Int.add_mul_ediv_right _ _ (by omega), Int.mul_comm x d, Int.add_mul_emod_self_left]
theorem digits_emod (ds : List Int) (n : Int) (h : ∀ d ∈ ds, 1 ≤ d) : digits ds (n % prodI ds) = digits ds n := by
 have := digits_per ds (n / prodI ds) (n % prodI ds) h
 rw [← this, Int.mul_comm, Int.mul_ediv_add_emod]
theorem offsR_digits : ∀ (ds : List Int) (n : Int), (∀ d ∈ ds, 1 ≤ d) → 0 ≤ n → n < prodI ds → offsR ds (digits ds n) = n
 | [], n, _, h0, h1 => by simp [prodI] at h1; simp [offsR, digits_nil]; omega
 | d :: ds, n, h, h0, h1 => by
  have hds : ∀ d ∈ ds, 1 ≤ d := fun z hz => h z (by simp [hz])
  have hp := prodI_pos ds hds
  rw [prodI_cons] at h1
  rw [digits_cons, offsR, ← digits_emod ds n hds, offsR_digits ds (n % prodI ds) hds (Int.emod_nonneg _ (by omega)) (Int.emod_lt_of_pos _ (by omega))]
  have hq : n / prodI ds < d := Int.ediv_lt_of_lt_mul (by omega) h1
  have hq0 : 0 ≤ n / prodI ds := Int.ediv_nonneg h0 (by omega)
  rw [Int.emod_eq_of_lt hq0 hq, Int.mul_comm, Int.mul_ediv_add_emod]
def stridesR : List Int → List Int
 | [] => []
 | _ :: ds => prodI ds :: stridesR ds
theorem stridesR_dot : ∀ (ds is : List Int), is.length = ds.length → dotI (stridesR ds) is = offsR ds is
 | [], [], _ => rfl
 | [], _ :: _, h => by simp at h
 | _ :: _, [], h => by simp at h
 | d :: ds, i :: is, h => by rw [stridesR, dotI, offsR, stridesR_dot ds is (by simpa using h), Int.mul_comm]
theorem strideL_map : ∀ (ls ds : List Int), ls.length = ds.length → ls.Nodup → ls.map (strideL ls ds) = stridesR ds
 | [], [], _, _ => rfl
 | [], _ :: _, h, _ => by simp at h
 | _ :: _, [], h, _ => by simp at h
 | l :: ls, d :: ds, h, hn => by
  simp only [List.nodup_cons] at hn
  rw [List.map_cons, stridesR, strideL, if_pos rfl, ← strideL_map ls ds (by simpa using h) hn.2]
  congr 1
  refine List.map_congr_left fun x hx => ?_
  rw [strideL, if_neg fun (e : x = l) => hn.1 (e ▸ hx)]
def offJ (v : Nat) : List Int → Nat → Nat → Nat
 | [], _, _ => 0
 | _ :: ds, 0, i => v * prodN ds + i
 | _ :: ds, j + 1, i => (i / prodN (ds.eraseIdx j)) * prodN ds + offJ v ds j (i % prodN (ds.eraseIdx j))
theorem erase_pos {ds : List Int} (h : ∀ d ∈ ds, 1 ≤ d) (j : Nat) : ∀ d ∈ ds.eraseIdx j, 1 ≤ d := fun d hd => h d (List.mem_of_mem_eraseIdx hd)
theorem offJ_dot (v : Nat) : ∀ (ds : List Int) (j i : Nat), (∀ d ∈ ds, 1 ≤ d) → j < ds.length → i < prodN (ds.eraseIdx j) →
  (v : Int) * (stridesR ds).getD j 0 + dotI ((stridesR ds).eraseIdx j) (digits (ds.eraseIdx j) i) = offJ v ds j i
 | [], j, _, _, h, _ => by simp at h
 | d :: ds, 0, i, h, _, hi => by
  have hds : ∀ d ∈ ds, 1 ≤ d := fun z hz => h z (by simp [hz])
  obtain ⟨hp, _⟩ := prodN_eq hds
  simp only [stridesR, List.getD_cons_zero, List.eraseIdx_cons_zero, offJ] at hi ⊢
  rw [stridesR_dot _ _ (digits_len _ _), offsR_digits ds i hds (by omega) (by omega), hp]
  push_cast; rfl
 | d :: ds, j + 1, i, h, hj, hi => by
  have hds : ∀ d ∈ ds, 1 ≤ d := fun z hz => h z (by simp [hz])
  have he := erase_pos hds j
  obtain ⟨hp, _⟩ := prodN_eq hds
  obtain ⟨hp', hp1⟩ := prodN_eq he
  have hd := h d (by simp)
  have hall : ∀ x ∈ d :: ds.eraseIdx j, 1 ≤ x := by
   intro x hx
   simp only [List.mem_cons] at hx
   rcases hx with rfl | hx
   ·exact hd
   ·exact he x hx
  simp only [List.eraseIdx_cons_succ] at hi ⊢
  rw [prodN_cons hall] at hi
  simp only [stridesR, List.getD_cons_succ, List.eraseIdx_cons_succ, digits_cons, dotI, offJ]
  have ih := offJ_dot v ds j (i % prodN (ds.eraseIdx j)) hds (by simpa using hj) (Nat.mod_lt _ (by omega))
  have e1 : digits (ds.eraseIdx j) ((i % prodN (ds.eraseIdx j) : Nat) : Int) = digits (ds.eraseIdx j) i := by
   rw [Int.natCast_emod, ← hp', digits_emod _ _ he]
  rw [e1] at ih
  have hq : i / prodN (ds.eraseIdx j) < d.toNat := Nat.div_lt_of_lt_mul (by rw [Nat.mul_comm]; exact hi)
  have e2 : (i : Int) / prodI (ds.eraseIdx j) % d = (i / prodN (ds.eraseIdx j) : Nat) := by
   rw [hp', ← Int.natCast_ediv]
   generalize i / prodN (ds.eraseIdx j) = q at *
   exact Int.emod_eq_of_lt (by omega) (by omega)
  rw [e2]
  generalize i / prodN (ds.eraseIdx j) = q at *
  generalize i % prodN (ds.eraseIdx j) = q2 at *
  push_cast
  rw [← ih, hp, Int.mul_comm (prodN ds : Int)]
  omega
theorem offJ_filter (v : Nat) : ∀ (ds : List Int) (j : Nat), (∀ d ∈ ds, 1 ≤ d) → j < ds.length → (v : Int) < ds.getD j 0 →
  (List.range (prodN ds)).filter (fun n : Nat => decide ((digits ds n).getD j 0 = v)) = (List.range (prodN (ds.eraseIdx j))).map (offJ v ds j)
 | [], _, _, h, _ => by simp at h
 | d :: ds, 0, h, _, hv => by
  have hds : ∀ d ∈ ds, 1 ≤ d := fun z hz => h z (by simp [hz])
  obtain ⟨hp, hp1⟩ := prodN_eq hds
  have hd := h d (by simp)
  simp only [List.getD_cons_zero] at hv
  rw [prodN_cons h, range_mul, List.filter_flatMap]
  have key : ∀ x ∈ List.range d.toNat, ((List.range (prodN ds)).map (x * prodN ds + ·)).filter (fun n : Nat => decide ((digits (d :: ds) n).getD 0 0 = v)) = if x = v then (List.range (prodN ds)).map (v * prodN ds + ·) else [] := by
   intro x hx
   have hx' : x < d.toNat := by simpa using hx
   have hval : ∀ y, y < prodN ds → (digits (d :: ds) ((x * prodN ds + y : Nat) : Int)).getD 0 0 = x := fun y hy => by
    rw [digits_cons, List.getD_cons_zero, hp, ← Int.natCast_ediv]
    have e : (x * prodN ds + y) / prodN ds = x := by
     rw [Nat.mul_comm, Nat.mul_add_div (by omega), Nat.div_eq_of_lt hy]; omega
    rw [e, Int.emod_eq_of_lt (by omega) (by omega)]
   split
   ·rename_i e
    subst e
    refine List.filter_eq_self.2 fun n hn => ?_
    obtain ⟨y, hy, rfl⟩ := List.mem_map.1 hn
    exact decide_eq_true (hval y (by simpa using hy))
   ·rename_i e
    refine List.filter_eq_nil_iff.2 fun n hn => ?_
    obtain ⟨y, hy, rfl⟩ := List.mem_map.1 hn
    rw [hval y (by simpa using hy)]
    simp; omega
  rw [flatMap_congr' key, flatMap_one (by omega)]
  simp only [List.eraseIdx_cons_zero]
  rfl
 | d :: ds, j + 1, h, hj, hv => by
  have hds : ∀ d ∈ ds, 1 ≤ d := fun z hz => h z (by simp [hz])
  have he := erase_pos hds j
  obtain ⟨hp, hp1⟩ := prodN_eq hds
  obtain ⟨hp', hp1'⟩ := prodN_eq he
  have hd := h d (by simp)
  have hall : ∀ x ∈ d :: ds.eraseIdx j, 1 ≤ x := by
   intro x hx
   simp only [List.mem_cons] at hx
   rcases hx with rfl | hx
   ·exact hd
   ·exact he x hx
  simp only [List.getD_cons_succ] at hv
  have ih := offJ_filter v ds j hds (by simpa using hj) hv
  rw [prodN_cons h, range_mul, List.filter_flatMap, List.eraseIdx_cons_succ, prodN_cons hall, range_mul, List.map_flatMap]
  refine flatMap_congr' fun x hx => ?_
  rw [List.filter_map, List.map_map]
  have e1 : (fun n : Nat => decide ((digits (d :: ds) n).getD (j + 1) 0 = (v : Int))) ∘ (x * prodN ds + ·) = fun n : Nat => decide ((digits ds n).getD j 0 = (v : Int)) := by
   funext y
   simp only [Function.comp, digits_cons, List.getD_cons_succ]
   congr 3
   push_cast
   rw [← hp, digits_per ds x y hds]
  rw [e1, ih, List.map_map]
  refine List.map_congr_left fun i hi => ?_
  have hi' : i < prodN (ds.eraseIdx j) := by simpa using hi
  simp only [Function.comp, offJ]
  have e2 : (x * prodN (ds.eraseIdx j) + i) / prodN (ds.eraseIdx j) = x := by
   rw [Nat.mul_comm, Nat.mul_add_div (by omega), Nat.div_eq_of_lt hi']; omega
  have e3 : (x * prodN (ds.eraseIdx j) + i) % prodN (ds.eraseIdx j) = i := by
   rw [Nat.mul_comm, Nat.mul_add_mod, Nat.mod_eq_of_lt hi']
  rw [e2, e3]
end Go.Proofs.Ytmkdphmjgfbjaaa
