/-
 Schedules as plain sums and counts: list scheduling, its makespan and the critical time. No condition.
-/
import Derived.Test.YtmkdphmjgfbjaaaLiftA
set_option linter.unusedSimpArgs false
set_option linter.unusedVariables false
namespace Go.Proofs.Ytmkdphmjgfbjaaa.Sch
def sumF (f : Nat → Int) : Nat → Int
 | 0 => 0
 | k + 1 => sumF f k + f k
def cntF (p : Nat → Bool) : Nat → Int
 | 0 => 0
 | k + 1 => cntF p k + (if p k = true then 1 else 0)
def up1 (f : Nat → Int) (k : Nat) (v : Int) : Nat → Int := fun i => if i = k then v else f i
theorem up1_same (f : Nat → Int) (k : Nat) (v : Int) : up1 f k v k = v := if_pos rfl
theorem up1_ne {f : Nat → Int} {k i : Nat} {v : Int} (h : i ≠ k) : up1 f k v i = f i := if_neg h
theorem cntF_le (p : Nat → Bool) : ∀ n : Nat, 0 ≤ cntF p n ∧ cntF p n ≤ n
 | 0 => by simp [cntF]
 | n + 1 => by
  have := cntF_le p n
  rw [cntF]
  split <;> omega
theorem cntF_mono {p q : Nat → Bool} : ∀ {n : Nat}, (∀ i, i < n → p i = true → q i = true) → cntF p n ≤ cntF q n
 | 0, _ => Int.le_refl _
 | n + 1, h => by
  have := cntF_mono (n := n) fun i hi => h i (by omega)
  have h1 := h n (by omega)
  rw [cntF, cntF]
  split
  ·rename_i hp; rw [if_pos (h1 hp)]; omega
  ·split <;> omega
theorem cntF_congr {p q : Nat → Bool} {n : Nat} (h : ∀ i, i < n → p i = q i) : cntF p n = cntF q n :=
 Int.le_antisymm (cntF_mono fun i hi => by rw [h i hi]; exact id) (cntF_mono fun i hi => by rw [h i hi]; exact id)
theorem cntF_more {p q : Nat → Bool} : ∀ {n : Nat}, (∀ i, i < n → p i = true → q i = true) → (∃ i, i < n ∧ q i = true ∧ p i = false) → cntF p n + 1 ≤ cntF q n
 | 0, _, h => by obtain ⟨i, hi, _⟩ := h; omega
 | n + 1, h, ⟨i, hi, h1, h2⟩ => by
  rw [cntF, cntF]
  by_cases e : i = n
  ·subst e
   have := cntF_mono (n := i) fun j hj => h j (by omega)
   rw [if_pos h1, if_neg (by rw [h2]; decide)]
   omega
  ·have := cntF_more (n := n) (fun j hj => h j (by omega)) ⟨i, by omega, h1, h2⟩
   have h3 := h n (by omega)
   split
   ·rename_i hp; rw [if_pos (h3 hp)]; omega
   ·split <;> omega
theorem cntF_up {p q : Nat → Bool} {k : Nat} : ∀ {n : Nat}, k < n → p k = false → q k = true → (∀ i, i < n → i ≠ k → q i = p i) → cntF q n = cntF p n + 1
 | 0, h, _, _, _ => by omega
 | n + 1, h, h1, h2, h3 => by
  rw [cntF, cntF]
  by_cases e : k = n
  ·subst e
   rw [cntF_congr (n := k) fun i hi => h3 i (by omega) (by omega), if_pos h2, if_neg (by rw [h1]; decide)]
   omega
  ·rw [cntF_up (n := n) (by omega) h1 h2 fun i hi => h3 i (by omega), h3 n (by omega) (Ne.symm e)]
   omega
theorem cntF_none {p : Nat → Bool} : ∀ {n : Nat}, (∀ i, i < n → p i = false) → cntF p n = 0
 | 0, _ => rfl
 | n + 1, h => by
  rw [cntF, cntF_none fun i hi => h i (by omega), if_neg (by rw [h n (by omega)]; decide)]
  rfl
theorem cntF_some {p : Nat → Bool} {n : Nat} (h : ∃ i, i < n ∧ p i = true) : 1 ≤ cntF p n := by
 obtain ⟨i, hi, hp⟩ := h
 have := cntF_more (p := fun _ => false) (q := p) (n := n) (fun _ _ h => by cases h) ⟨i, hi, hp, rfl⟩
 have h2 := cntF_none (p := fun _ => false) (n := n) fun _ _ => rfl
 omega
theorem sumF_congr {f g : Nat → Int} : ∀ {n : Nat}, (∀ i, i < n → f i = g i) → sumF f n = sumF g n
 | 0, _ => rfl
 | n + 1, h => by rw [sumF, sumF, sumF_congr fun i hi => h i (by omega), h n (by omega)]
theorem sumF_grow {f g : Nat → Int} {p : Nat → Bool} {d : Int} : ∀ {n : Nat}, (∀ i, i < n → g i = f i + (if p i = true then d else 0)) → sumF g n = sumF f n + d * cntF p n
 | 0, _ => by simp [sumF, cntF]
 | n + 1, h => by
  rw [sumF, sumF, cntF, sumF_grow fun i hi => h i (by omega), h n (by omega), Int.mul_add]
  split <;> omega
theorem sumF_le {f : Nat → Int} {M : Int} : ∀ {n : Nat}, (∀ i, i < n → 0 ≤ f i ∧ f i ≤ M) → 0 ≤ sumF f n ∧ sumF f n ≤ n * M
 | 0, _ => by simp [sumF]
 | n + 1, h => by
  have h1 := sumF_le (n := n) fun i hi => h i (by omega)
  have h2 := h n (by omega)
  rw [sumF]
  have : ((n + 1 : Nat) : Int) * M = n * M + M := by rw [Int.natCast_add, Int.add_mul]; simp
  omega
structure Job where
 m : Nat
 n : Nat
 c : Nat → Int
 A : Nat → Nat
 B : Nat → Nat
structure Job.Ok (J : Job) : Prop where
 c1 : ∀ k, k < J.n → 1 ≤ J.c k
 a : ∀ k, k < J.n → J.A k < J.m + k
 b : ∀ k, k < J.n → J.B k < J.m + k
variable {J : Job}
def runB (J : Job) (s : Nat → Int) (t : Int) (i : Nat) : Bool := decide (0 ≤ s i ∧ t < s i + J.c i)
def finB (J : Job) (s : Nat → Int) (t : Int) (i : Nat) : Bool := decide (0 ≤ s i ∧ s i + J.c i ≤ t)
def endB (J : Job) (s : Nat → Int) (t : Int) (x : Nat) : Bool := decide (x < J.m) || finB J s t (x - J.m)
def onB (J : Job) (s : Nat → Int) (t : Int) (i : Nat) : Bool := decide (s i ≤ t ∧ t < s i + J.c i)
def go1 (J : Job) (w t r : Int) (s : Nat → Int) : Nat → Int × (Nat → Int)
 | 0 => (r, s)
 | k + 1 => if (go1 J w t r s k).1 < w ∧ (go1 J w t r s k).2 k < 0 ∧ endB J (go1 J w t r s k).2 t (J.A k) = true ∧ endB J (go1 J w t r s k).2 t (J.B k) = true
  then ((go1 J w t r s k).1 + 1, up1 (go1 J w t r s k).2 k t) else go1 J w t r s k
def nxt (J : Job) (t : Int) (s : Nat → Int) : Nat → Int
 | 0 => -1
 | k + 1 => if 0 ≤ s k ∧ t < s k + J.c k ∧ (nxt J t s k < 0 ∨ s k + J.c k < nxt J t s k) then s k + J.c k else nxt J t s k
def goS (J : Job) (w t : Int) (s : Nat → Int) : Nat → Int := (go1 J w t (cntF (runB J s t) J.n) s J.n).2
def rnd (J : Job) (w : Int) : Nat → Int × (Nat → Int)
 | 0 => (0, fun _ => -1)
 | q + 1 => (nxt J (rnd J w q).1 (goS J w (rnd J w q).1 (rnd J w q).2) J.n, goS J w (rnd J w q).1 (rnd J w q).2)
def wkF (J : Job) (s : Nat → Int) (t : Int) (i : Nat) : Int := if 0 ≤ s i then min (J.c i) (t - s i) else 0
structure Inv (J : Job) (w t : Int) (s : Nat → Int) (q : Nat) : Prop where
 t0 : 0 ≤ t
 le : ∀ k, k < J.n → s k = -1 ∨ (0 ≤ s k ∧ s k ≤ t)
 dep : ∀ k, k < J.n → 0 ≤ s k → endB J s (s k) (J.A k) = true ∧ endB J s (s k) (J.B k) = true
 cap : ∀ k, k < J.n → 0 ≤ s k → cntF (fun i => decide (0 ≤ s i) && onB J s (s k) i) J.n ≤ w
 run : cntF (runB J s t) J.n ≤ w
 wk : t ≤ sumF (wkF J s t) J.n ∧ sumF (wkF J s t) J.n ≤ w * t
 en : t = 0 ∨ ∃ i, i < J.n ∧ 0 ≤ s i ∧ s i + J.c i = t
 fin : (q : Int) ≤ cntF (finB J s t) J.n
theorem Inv.zero {w : Int} (hw : 1 ≤ w) : Inv J w 0 (fun _ => -1) 0 := by
 have h1 : ∀ t i, runB J (fun _ => -1) t i = false := fun t i => by simp [runB]
 refine ⟨Int.le_refl _, fun _ _ => .inl rfl, fun k _ h => by simp at h, fun k _ h => by simp at h, ?_, ?_, .inl rfl, ?_⟩
 ·rw [cntF_none fun i _ => h1 _ i]; omega
 ·have h2 : sumF (wkF J (fun _ => -1) 0) J.n = 0 := by
   have := sumF_le (f := wkF J (fun _ => -1) 0) (M := 0) (n := J.n) fun i _ => by simp [wkF]
   omega
  rw [h2]; omega
 ·exact (cntF_le _ _).1
structure Go1 (J : Job) (w t : Int) (s : Nat → Int) (k : Nat) (r : Int) (s' : Nat → Int) : Prop where
 old : ∀ i, s' i = s i ∨ (s i < 0 ∧ i < k ∧ s' i = t)
 cn : r = cntF (runB J s' t) J.n
 cw : r ≤ w
 dep : ∀ i, i < J.n → 0 ≤ s' i → endB J s' (s' i) (J.A i) = true ∧ endB J s' (s' i) (J.B i) = true
 no : ∀ i, i < k → s' i < 0 → w ≤ r ∨ endB J s' t (J.A i) = false ∨ endB J s' t (J.B i) = false
theorem endB_up {s : Nat → Int} {k : Nat} {t u : Int} (hs : s k < 0) (x : Nat) (h : endB J s u x = true) : endB J (up1 s k t) u x = true := by
 simp only [endB, finB, Bool.or_eq_true, decide_eq_true_eq] at h ⊢
 by_cases e : x - J.m = k
 ·rw [e] at h; omega
 ·rw [up1_ne e]; exact h
theorem endB_upF {s : Nat → Int} {k : Nat} {t : Int} (hs : s k < 0) (hc : 1 ≤ J.c k) (x : Nat) (h : endB J s t x = false) : endB J (up1 s k t) t x = false := by
 rw [Bool.eq_false_iff] at h ⊢
 refine fun h' => h ?_
 simp only [endB, finB, Bool.or_eq_true, decide_eq_true_eq] at h' ⊢
 by_cases e : x - J.m = k
 ·rw [e, up1_same] at h'; omega
 ·rw [up1_ne e] at h'; exact h'
theorem go1_ok (hJ : J.Ok) {w t : Int} {s : Nat → Int} {q : Nat} (hI : Inv J w t s q) : ∀ k, k ≤ J.n → Go1 J w t s k (go1 J w t (cntF (runB J s t) J.n) s k).1 (go1 J w t (cntF (runB J s t) J.n) s k).2
 | 0, _ => ⟨fun _ => .inl rfl, rfl, hI.run, hI.dep, fun i h => by omega⟩
 | k + 1, hk => by
  have h := go1_ok hJ hI k (by omega)
  have hc := hJ.c1 k (by omega)
  have ht := hI.t0
  rw [go1]
  generalize go1 J w t (cntF (runB J s t) J.n) s k = S at h ⊢
  obtain ⟨r, s'⟩ := S
  simp only at h ⊢
  split
  ·rename_i hx
   obtain ⟨x1, x2, x3, x4⟩ := hx
   have hsk : s k < 0 := by rcases h.old k with e | ⟨e, _⟩ <;> omega
   refine ⟨fun i => ?_, ?_, by show r + 1 ≤ w; omega, fun i hi h0 => ?_, fun i hi h0 => ?_⟩
   ·by_cases e : i = k
    ·subst e; exact .inr ⟨hsk, by omega, up1_same _ _ _⟩
    ·simp only [up1_ne e]
     rcases h.old i with e' | ⟨e1, e2, e3⟩
     ·exact .inl e'
     ·exact .inr ⟨e1, by omega, e3⟩
   ·show r + 1 = _
    rw [h.cn]
    refine (cntF_up (k := k) (by omega) ?_ ?_ fun i _ hne => ?_).symm
    ·simp [runB]; omega
    ·simp [runB, up1_same]; omega
    ·simp only [runB, up1_ne hne]
   ·simp only at h0 ⊢
    by_cases e : i = k
    ·subst e
     rw [up1_same]
     exact ⟨endB_up x2 _ x3, endB_up x2 _ x4⟩
    ·rw [up1_ne e] at h0 ⊢
     obtain ⟨d1, d2⟩ := h.dep i hi h0
     exact ⟨endB_up x2 _ d1, endB_up x2 _ d2⟩
   ·simp only at h0 ⊢
    by_cases e : i = k
    ·subst e; rw [up1_same] at h0; omega
    ·rw [up1_ne e] at h0
     rcases h.no i (by omega) h0 with d | d | d
     ·exact .inl (by omega)
     ·exact .inr (.inl (endB_upF x2 hc _ d))
     ·exact .inr (.inr (endB_upF x2 hc _ d))
  ·rename_i hx
   refine ⟨fun i => ?_, h.cn, h.cw, h.dep, fun i hi h0 => ?_⟩
   ·rcases h.old i with e' | ⟨e1, e2, e3⟩
    ·exact .inl e'
    ·exact .inr ⟨e1, by omega, e3⟩
   ·by_cases e : i = k
    ·subst e
     false_or_by_contra
     rename_i hn
     have h3 : ¬ w ≤ r := fun e => hn (.inl e)
     have h4 : ¬ endB J s' t (J.A i) = false := fun e => hn (.inr (.inl e))
     have h5 : ¬ endB J s' t (J.B i) = false := fun e => hn (.inr (.inr e))
     exact hx ⟨by omega, h0, by simpa using h4, by simpa using h5⟩
    ·exact h.no i (by omega) h0
theorem nxt_ok {t : Int} {s : Nat → Int} (ht : 0 ≤ t) : ∀ k, (nxt J t s k = -1 ∧ ∀ i, i < k → runB J s t i = false) ∨
  (t < nxt J t s k ∧ (∃ i, i < k ∧ 0 ≤ s i ∧ s i + J.c i = nxt J t s k) ∧ ∀ i, i < k → runB J s t i = true → nxt J t s k ≤ s i + J.c i)
 | 0 => .inl ⟨rfl, fun i h => by omega⟩
 | k + 1 => by
  have h := nxt_ok (s := s) ht k
  rw [nxt]
  generalize nxt J t s k = x at h ⊢
  split
  ·rename_i hx
   refine .inr ⟨hx.2.1, ⟨k, by omega, hx.1, rfl⟩, fun i hi hr => ?_⟩
   by_cases e : i = k
   ·subst e; exact Int.le_refl _
   ·rcases h with ⟨h1, h2⟩ | ⟨h1, _, h2⟩
    ·rw [h2 i (by omega)] at hr; cases hr
    ·have := h2 i (by omega) hr
     omega
  ·rename_i hx
   rcases h with ⟨h1, h2⟩ | ⟨h1, ⟨i, hi, h3⟩, h2⟩
   ·refine .inl ⟨h1, fun i hi => ?_⟩
    by_cases e : i = k
    ·subst e
     rw [Bool.eq_false_iff]
     intro hr
     simp only [runB, decide_eq_true_eq] at hr
     exact hx ⟨hr.1, hr.2, .inl (by omega)⟩
    ·exact h2 i (by omega)
   ·refine .inr ⟨h1, ⟨i, by omega, h3⟩, fun i hi hr => ?_⟩
    by_cases e : i = k
    ·subst e
     simp only [runB, decide_eq_true_eq] at hr
     false_or_by_contra
     exact hx ⟨hr.1, hr.2, .inr (by omega)⟩
    ·exact h2 i (by omega) hr
theorem goS_ok (hJ : J.Ok) {w t : Int} {s : Nat → Int} {q : Nat} (hI : Inv J w t s q) : Inv J w t (goS J w t s) q ∧ ∀ i, i < J.n → goS J w t s i < 0 → w ≤ cntF (runB J (goS J w t s) t) J.n ∨ endB J (goS J w t s) t (J.A i) = false ∨ endB J (goS J w t s) t (J.B i) = false := by
 have h := go1_ok hJ hI J.n (Nat.le_refl _)
 have ht := hI.t0
 unfold goS
 generalize go1 J w t (cntF (runB J s t) J.n) s J.n = S at h ⊢
 obtain ⟨r, s'⟩ := S
 simp only at h ⊢
 have hle : ∀ k, k < J.n → s' k = -1 ∨ (0 ≤ s' k ∧ s' k ≤ t) := fun k hk => by
  rcases h.old k with e | ⟨_, _, e⟩
  ·rw [e]; exact hI.le k hk
  ·exact .inr (by omega)
 have hrn := h.cn
 have hrw := h.cw
 refine ⟨⟨ht, hle, h.dep, fun k hk h0 => ?_, by omega, ?_, ?_, ?_⟩, fun i hi h0 => by rw [← hrn]; exact h.no i hi h0⟩
 ·by_cases e : s' k = t
  ·rw [e]
   have : cntF (fun i => decide (0 ≤ s' i) && onB J s' t i) J.n = cntF (runB J s' t) J.n := cntF_congr fun i hi => by
    have := hle i hi
    simp only [onB, runB]
    rw [← Bool.decide_and]
    exact decide_eq_decide.2 (by omega)
   omega
  ·have ek : s' k = s k := by
    rcases h.old k with e' | ⟨_, _, e'⟩
    ·exact e'
    ·exact absurd e' e
   have hkt := hle k hk
   have h3 := hI.cap k hk (by omega)
   have : cntF (fun i => decide (0 ≤ s' i) && onB J s' (s' k) i) J.n = cntF (fun i => decide (0 ≤ s i) && onB J s (s k) i) J.n := cntF_congr fun i hi => by
    simp only [onB, ek]
    rw [← Bool.decide_and, ← Bool.decide_and]
    refine decide_eq_decide.2 ?_
    rcases h.old i with e' | ⟨e1, _, e2⟩
    ·rw [e']
    ·rw [e2]; omega
   omega
 ·have : sumF (wkF J s' t) J.n = sumF (wkF J s t) J.n := sumF_congr fun i hi => by
   have hc := hJ.c1 i hi
   rcases h.old i with e' | ⟨e1, _, e2⟩
   ·simp only [wkF, e']
   ·simp only [wkF, e2, if_pos ht, if_neg (show ¬ 0 ≤ s i by omega)]; omega
  rw [this]; exact hI.wk
 ·rcases hI.en with e | ⟨i, hi, h0, e⟩
  ·exact .inl e
  ·refine .inr ⟨i, hi, ?_⟩
   rcases h.old i with e' | ⟨e1, _, e2⟩
   ·rw [e']; exact ⟨h0, e⟩
   ·omega
 ·refine Int.le_trans hI.fin (cntF_mono fun i hi hf => ?_)
  simp only [finB, decide_eq_true_eq] at hf ⊢
  rcases h.old i with e' | ⟨e1, _, e2⟩
  ·rw [e']; exact hf
  ·omega
theorem round_ok (hJ : J.Ok) {w t : Int} {s : Nat → Int} {q : Nat} (hI : Inv J w t s q) (hn : 0 ≤ nxt J t (goS J w t s) J.n) : Inv J w (nxt J t (goS J w t s) J.n) (goS J w t s) (q + 1) := by
 obtain ⟨hS, _⟩ := goS_ok hJ hI
 generalize goS J w t s = s' at hS hn ⊢
 rcases nxt_ok (J := J) (s := s') hS.t0 J.n with ⟨h1, _⟩ | ⟨h1, ⟨i, hi, h2, h3⟩, h4⟩
 ·omega
 generalize nxt J t s' J.n = u at h1 h3 h4 ⊢
 have ht := hS.t0
 have hri : runB J s' t i = true := by simp only [runB, decide_eq_true_eq]; omega
 have hcs := cntF_some ⟨i, hi, hri⟩
 have hrw := hS.run
 refine ⟨by omega, fun k hk => ?_, hS.dep, hS.cap, ?_, ?_, .inr ⟨i, hi, h2, h3⟩, ?_⟩
 ·have := hS.le k hk; omega
 ·refine Int.le_trans (cntF_mono fun i _ hr => ?_) hrw
  simp only [runB, decide_eq_true_eq] at hr ⊢
  omega
 ·have hg : sumF (wkF J s' u) J.n = sumF (wkF J s' t) J.n + (u - t) * cntF (runB J s' t) J.n := sumF_grow fun k hk => by
   have hl := hS.le k hk
   have h5 := h4 k hk
   by_cases hr : runB J s' t k = true
   ·have h6 := h5 hr
    simp only [runB, decide_eq_true_eq] at hr
    rw [if_pos (by simp only [runB, decide_eq_true_eq]; exact hr)]
    simp only [wkF, if_pos hr.1]
    omega
   ·rw [if_neg hr]
    simp only [runB, decide_eq_true_eq] at hr
    simp only [wkF]
    split <;> omega
  rw [hg]
  obtain ⟨w1, w2⟩ := hS.wk
  have m1 := Int.mul_le_mul_of_nonneg_left hcs (show 0 ≤ u - t by omega)
  have m2 := Int.mul_le_mul_of_nonneg_left hrw (show 0 ≤ u - t by omega)
  have m3 : (u - t) * w = w * u - w * t := by rw [Int.mul_comm, Int.mul_sub]
  rw [Int.mul_one] at m1
  omega
 ·have := cntF_more (p := finB J s' t) (q := finB J s' u) (n := J.n) (fun k _ hk => by simp only [finB, decide_eq_true_eq] at hk ⊢; omega)
   ⟨i, hi, by simp only [finB, decide_eq_true_eq]; omega, by rw [Bool.eq_false_iff]; simp only [finB, ne_eq, decide_eq_true_eq]; omega⟩
  have := hS.fin
  push_cast
  omega
structure Good (J : Job) (w T : Int) (s : Nat → Int) : Prop where
 t0 : 0 ≤ T
 en : ∀ k, k < J.n → 0 ≤ s k ∧ s k + J.c k ≤ T
 dep : ∀ k, k < J.n → endB J s (s k) (J.A k) = true ∧ endB J s (s k) (J.B k) = true
 cap : ∀ k, k < J.n → cntF (onB J s (s k)) J.n ≤ w
 last : T = 0 ∨ ∃ i, i < J.n ∧ s i + J.c i = T
 sum : T ≤ sumF J.c J.n ∧ sumF J.c J.n ≤ w * T
theorem last_ok (hJ : J.Ok) {w t : Int} {s : Nat → Int} {q : Nat} (hw : 1 ≤ w) (hI : Inv J w t s q) (hn : nxt J t (goS J w t s) J.n < 0) : Good J w t (goS J w t s) := by
 obtain ⟨hS, hno⟩ := goS_ok hJ hI
 generalize goS J w t s = s' at hS hn hno ⊢
 have ht := hS.t0
 have hr : ∀ i, i < J.n → runB J s' t i = false := by
  rcases nxt_ok (J := J) (s := s') hS.t0 J.n with ⟨_, h⟩ | ⟨h1, _⟩
  ·exact h
  ·omega
 have hc0 := cntF_none hr
 have hst : ∀ q k, k < q → k < J.n → 0 ≤ s' k := by
  intro q
  induction q with
  | zero => intro k h; omega
  | succ q ih =>
   intro k _ hk
   false_or_by_contra
   rename_i hneg
   have hend : ∀ x, x < J.m + k → endB J s' t x = true := fun x hx => by
    simp only [endB, finB, Bool.or_eq_true, decide_eq_true_eq]
    by_cases e : x < J.m
    ·exact .inl e
    ·have h1 := ih (x - J.m) (by omega) (by omega)
     have h2 := hr (x - J.m) (by omega)
     rw [Bool.eq_false_iff] at h2
     simp only [runB, ne_eq, decide_eq_true_eq] at h2
     exact .inr (by omega)
   rcases hno k hk (by omega) with h | h | h
   ·omega
   ·rw [hend _ (hJ.a k hk)] at h; cases h
   ·rw [hend _ (hJ.b k hk)] at h; cases h
 have hst' : ∀ k, k < J.n → 0 ≤ s' k := fun k hk => hst (k + 1) k (by omega) hk
 have hen : ∀ k, k < J.n → s' k + J.c k ≤ t := fun k hk => by
  have h2 := hr k hk
  have h3 := hst' k hk
  rw [Bool.eq_false_iff] at h2
  simp only [runB, ne_eq, decide_eq_true_eq] at h2
  omega
 refine ⟨ht, fun k hk => ⟨hst' k hk, hen k hk⟩, fun k hk => hS.dep k hk (hst' k hk), fun k hk => ?_, ?_, ?_⟩
 ·rw [cntF_congr (q := fun i => decide (0 ≤ s' i) && onB J s' (s' k) i) fun i hi => by rw [decide_eq_true (hst' i hi), Bool.true_and]]
  exact hS.cap k hk (hst' k hk)
 ·rcases hS.en with e | ⟨i, hi, _, e⟩
  ·exact .inl e
  ·exact .inr ⟨i, hi, e⟩
 ·rw [← sumF_congr (f := wkF J s' t) fun i hi => by
   have := hst' i hi
   have := hen i hi
   simp only [wkF, if_pos (hst' i hi)]
   omega]
  exact hS.wk
def spanTo (J : Job) (s : Nat → Int) : Nat → Int
 | 0 => 0
 | k + 1 => max (spanTo J s k) (s k + J.c k)
theorem spanTo_ge (s : Nat → Int) : ∀ n, 0 ≤ spanTo J s n ∧ ∀ k, k < n → s k + J.c k ≤ spanTo J s n
 | 0 => ⟨Int.le_refl _, fun k h => by omega⟩
 | n + 1 => by
  obtain ⟨h1, h2⟩ := spanTo_ge s n
  rw [spanTo]
  refine ⟨by omega, fun k hk => ?_⟩
  by_cases e : k = n
  ·subst e; omega
  ·have := h2 k (by omega); omega
theorem spanTo_le {s : Nat → Int} {T : Int} (hT : 0 ≤ T) : ∀ n, (∀ k, k < n → s k + J.c k ≤ T) → spanTo J s n ≤ T
 | 0, _ => hT
 | n + 1, h => by
  have h1 := spanTo_le hT n fun k hk => h k (by omega)
  have h2 := h n (by omega)
  rw [spanTo]; omega
theorem Good.mkspan {w T : Int} {s : Nat → Int} (h : Good J w T s) : spanTo J s J.n = T := by
 have h1 := spanTo_le h.t0 J.n fun k hk => (h.en k hk).2
 obtain ⟨h2, h3⟩ := spanTo_ge (J := J) s J.n
 have ht := h.t0
 rcases h.last with e | ⟨i, hi, e⟩
 ·omega
 ·have := h3 i hi; omega
def bef (J : Job) (e : Nat → Int) (x : Nat) (v : Int) : Int := if J.m ≤ x then max v (e (x - J.m)) else v
def eTo (J : Job) : Nat → Nat → Int
 | 0 => J.c
 | k + 1 => up1 (eTo J k) k (eTo J k k + bef J (eTo J k) (J.B k) (bef J (eTo J k) (J.A k) 0))
def bTo (J : Job) : Nat → Int
 | 0 => 0
 | k + 1 => max (bTo J k) (eTo J (k + 1) k)
theorem eTo_le (hJ : J.Ok) {w T : Int} {s : Nat → Int} (h : Good J w T s) : ∀ k, k ≤ J.n → (∀ i, i < k → eTo J k i ≤ s i + J.c i) ∧ ∀ i, k ≤ i → eTo J k i = J.c i
 | 0, _ => ⟨fun i h => by omega, fun _ _ => rfl⟩
 | k + 1, hk => by
  obtain ⟨h1, h2⟩ := eTo_le hJ h k (by omega)
  have hb : ∀ x v, x < J.m + k → v ≤ s k → endB J s (s k) x = true → bef J (eTo J k) x v ≤ s k := fun x v hx hv he => by
   unfold bef
   split
   ·simp only [endB, finB, Bool.or_eq_true, decide_eq_true_eq] at he
    have := h1 (x - J.m) (by omega)
    omega
   ·exact hv
  have hd := h.dep k (by omega)
  have h0 := (h.en k (by omega)).1
  have h3 := hb _ _ (hJ.b k (by omega)) (hb _ _ (hJ.a k (by omega)) h0 hd.1) hd.2
  have h4 := h2 k (Nat.le_refl _)
  rw [eTo]
  refine ⟨fun i hi => ?_, fun i hi => ?_⟩
  ·by_cases e : i = k
   ·subst e; rw [up1_same]; omega
   ·rw [up1_ne e]; exact h1 i (by omega)
  ·rw [up1_ne (by omega)]; exact h2 i (by omega)
theorem bTo_le (hJ : J.Ok) {w T : Int} {s : Nat → Int} (h : Good J w T s) : ∀ k, k ≤ J.n → bTo J k ≤ T
 | 0, _ => h.t0
 | k + 1, hk => by
  have h1 := bTo_le hJ h k (by omega)
  have h2 := (eTo_le hJ h (k + 1) hk).1 k (by omega)
  have h3 := (h.en k (by omega)).2
  rw [bTo]; omega
theorem eTo_bd (hc : ∀ k, k < J.n → 0 ≤ J.c k ∧ J.c k ≤ 1000000) (hJ : J.Ok) : ∀ k, k ≤ J.n → ∀ i, i < J.n → 0 ≤ eTo J k i ∧ eTo J k i ≤ (if i < k then (i + 1) * 1000000 else 1000000)
 | 0, _, i, hi => by rw [if_neg (by omega)]; exact hc i hi
 | k + 1, hk, i, hi => by
  have ih := eTo_bd hc hJ k (by omega)
  have hb : ∀ (x : Nat) (v : Int), x < J.m + k → 0 ≤ v ∧ v ≤ k * 1000000 → 0 ≤ bef J (eTo J k) x v ∧ bef J (eTo J k) x v ≤ k * 1000000 := fun x v hx hv => by
   unfold bef
   split
   ·have := ih (x - J.m) (by omega)
    rw [if_pos (show x - J.m < k by omega)] at this
    have h5 : ((x - J.m : Nat) : Int) + 1 ≤ k := by omega
    have := Int.mul_le_mul_of_nonneg_right h5 (show (0 : Int) ≤ 1000000 by decide)
    omega
   ·exact hv
  have h3 := hb _ _ (hJ.b k (by omega)) (hb _ 0 (hJ.a k (by omega)) (by omega))
  have h4 := ih k (by omega)
  rw [if_neg (by omega)] at h4
  rw [eTo]
  by_cases e : i = k
  ·subst e
   rw [up1_same, if_pos (by omega)]
   omega
  ·rw [up1_ne e]
   have := ih i hi
   by_cases e2 : i < k
   ·rw [if_pos e2] at this; rw [if_pos (by omega)]; exact this
   ·rw [if_neg e2] at this; rw [if_neg (by omega)]; exact this
end Go.Proofs.Ytmkdphmjgfbjaaa.Sch
