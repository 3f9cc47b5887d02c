/-
 Plain lists: the dimensions of a network's labels; valid networks. No condition.
-/
import Derived.Test.YtndmbmmnbocmhaaNetA
import Derived.Test.YtndmbmmnbocmhaaRngC
set_option linter.unusedSimpArgs false
set_option linter.unusedVariables false
namespace Go.Proofs.Ytndmbmmnbocmhaa
open Go.RowKit Go.Lift Plain
def dimN : List Ten → Int → Int
 | [], _ => 0
 | t :: l, x => if x ∈ t.labels then dimAt t x else dimN l x
theorem dimN_app : ∀ (a b : List Ten) (x : Int), (∀ t ∈ a, x ∈ t.labels → dimAt t x ≠ 0) → dimN (a ++ b) x = if dimN a x = 0 then dimN b x else dimN a x
 | [], b, x, _ => by simp [dimN]
 | t :: l, b, x, h => by
  rw [List.cons_append, dimN, dimN]
  by_cases hm : x ∈ t.labels
  ·rw [if_pos hm, if_pos hm, if_neg (h t (by simp) hm)]
  ·rw [if_neg hm, if_neg hm]
   exact dimN_app l b x fun t' ht' => h t' (by simp [ht'])
def tenOks (r : Rg) (ts : List Ten) : Prop := ∀ t ∈ ts, tensorOk r t.labels t.dims t.data = true
def axOks (ts : List Ten) : Prop := ∀ t ∈ ts, axOk t.labels t.dims
theorem tenOks.ax {r : Rg} {ts : List Ten} (h : tenOks r ts) : axOks ts := fun t ht => (tensorOk_facts (h t ht)).2.1
theorem axOks.take {ts : List Ten} (h : axOks ts) (k : Nat) : axOks (ts.take k) := fun t ht => h t (List.mem_of_mem_take ht)
theorem axOks.ne {ts : List Ten} (h : axOks ts) {x : Int} : ∀ t ∈ ts, x ∈ t.labels → dimAt t x ≠ 0 := fun t ht hm => by have := dimAt_bd (h t ht) hm; omega
theorem dimN_bd : ∀ {ts : List Ten}, axOks ts → ∀ x, dimN ts x = 0 ∨ (1 ≤ dimN ts x ∧ dimN ts x ≤ 8)
 | [], _, x => .inl rfl
 | t :: l, h, x => by
  rw [dimN]
  split
  ·rename_i hm
   exact .inr (dimAt_bd (h t (by simp)) hm)
  ·exact dimN_bd (fun t' ht' => h t' (by simp [ht'])) x
theorem dimN_out {ts : List Ten} (h : axOks ts) {x : Int} (hx : ¬ (0 ≤ x ∧ x ≤ 99)) : dimN ts x = 0 := by
 induction ts with
 | nil => rfl
 | cons t l ih =>
  rw [dimN, if_neg (fun hm => hx (by
   obtain ⟨k, hk, rfl⟩ := List.getElem_of_mem hm
   have := (h t (by simp)).2.2 k hk
   unfold axAt at this
   rw [getD_of hk] at this
   omega))]
  exact ih fun t' ht' => h t' (by simp [ht'])
theorem dimN_next {ts : List Ten} (h : axOks ts) {k : Nat} (hk : k < ts.length) (x : Int) : dimN (ts.take (k + 1)) x = if dimN (ts.take k) x = 0 then (if x ∈ ts[k].labels then dimAt ts[k] x else 0) else dimN (ts.take k) x := by
 rw [take_ss hk, dimN_app _ _ _ (h.take k).ne]
 simp only [dimN]
def consT (ts : List Ten) (k : Nat) : Prop := ∀ x, (hk : k < ts.length) → x ∈ ts[k].labels → dimN (ts.take k) x = 0 ∨ dimN (ts.take k) x = dimAt ts[k] x
def consB (ts : List Ten) : Prop := ∀ k, k < ts.length → consT ts k
open Classical in
noncomputable def netOk (N : Net) : Bool := ringOk N.rg && decide (N.ts.length ≤ 12) && decide (tenOks N.rg N.ts) && decide (consB N.ts) && decide (tsize N.os (N.os.map (dimN N.ts)) ≠ -1)
def repI (n : Nat) (x : Int) : List Int := List.replicate n x
theorem repI_len (n : Nat) (x : Int) : (repI n x).length = n := by simp [repI]
theorem reps_int (n : Nat) (x : Int) : reps n (.d (.int x)) = iv (repI n x) := by simp [reps, repI, iv]
def atT (D : List Int) (x : Int) : Int := D.getD x.toNat 0
theorem atT_rep (n : Nat) (x : Int) : atT (repI n 0) x = 0 := by
 unfold atT repI
 by_cases h : x.toNat < n
 ·rw [getD_of (by simpa using h)]; simp
 ·rw [List.getD_eq_getElem?_getD, List.getElem?_eq_none (by simp; omega)]; rfl
theorem atT_set {D : List Int} {x y d : Int} (hl : D.length = 100) (hx : 0 ≤ x ∧ x ≤ 99) (hy : 0 ≤ y ∧ y ≤ 99) : atT (D.set x.toNat d) y = if x = y then d else atT D y := by
 unfold atT
 rw [List.getD_eq_getElem?_getD, List.getElem?_set]
 by_cases e : x = y
 ·subst e; rw [if_pos rfl, if_pos (by omega), if_pos rfl]; rfl
 ·rw [if_neg (by omega), if_neg e]; rfl
def dimsGo : List (Int × Int) → List Int → List Int × Bool
 | [], D => (D, true)
 | (x, d) :: r, D => if atT D x ≠ 0 ∧ atT D x ≠ d then (D, false) else dimsGo r (D.set x.toNat d)
theorem dimsGo_app : ∀ (a b : List (Int × Int)) (D : List Int), dimsGo (a ++ b) D = if (dimsGo a D).2 = true then dimsGo b (dimsGo a D).1 else dimsGo a D
 | [], b, D => by simp [dimsGo]
 | (x, d) :: r, b, D => by
  rw [List.cons_append, dimsGo, dimsGo]
  split
  ·simp
  ·exact dimsGo_app r b _
theorem dimsGo_len : ∀ (a : List (Int × Int)) (D : List Int), (dimsGo a D).1.length = D.length
 | [], D => rfl
 | (x, d) :: r, D => by
  rw [dimsGo]
  split
  ·rfl
  ·rw [dimsGo_len r, List.length_set]
def tpairs (t : Ten) : List (Int × Int) := t.labels.zip t.dims
def pairsN (ts : List Ten) : List (Int × Int) := ts.flatMap tpairs
def dimsR (ts : List Ten) : List Int × Bool := dimsGo (pairsN ts) (repI 100 0)
theorem dimsR_len (ts : List Ten) : (dimsR ts).1.length = 100 := by rw [dimsR, dimsGo_len, repI_len]
def pairsTo (ts : List Ten) (k q : Nat) : List (Int × Int) := pairsN (ts.take k) ++ (tpairs (ts.getD k ⟨[], [], []⟩)).take q
def dimsTo (ts : List Ten) (k q : Nat) : List Int × Bool := dimsGo (pairsTo ts k q) (repI 100 0)
theorem dimsTo_len (ts : List Ten) (k q : Nat) : (dimsTo ts k q).1.length = 100 := by rw [dimsTo, dimsGo_len, repI_len]
theorem tpairs_len {t : Ten} (h : axOk t.labels t.dims) : (tpairs t).length = t.labels.length := by simp [tpairs, h.len]
theorem dimsTo_zero (ts : List Ten) : dimsTo ts 0 0 = (repI 100 0, true) := by simp [dimsTo, pairsTo, pairsN, dimsGo]
theorem dimsTo_tensor {ts : List Ten} (h : axOks ts) {k : Nat} (hk : k < ts.length) : dimsTo ts k ts[k].labels.length = dimsTo ts (k + 1) 0 := by
 have e : ts.getD k ⟨[], [], []⟩ = ts[k] := by simp [hk]
 have hl := tpairs_len (h ts[k] (List.getElem_mem hk))
 unfold dimsTo pairsTo
 have e2 : pairsN (ts.take (k + 1)) = pairsN (ts.take k) ++ tpairs ts[k] := by
  rw [take_ss hk]
  unfold pairsN
  rw [List.flatMap_append]
  simp only [List.flatMap_cons, List.flatMap_nil, List.append_nil]
 rw [e, List.take_of_length_le (l := tpairs ts[k]) (by omega), e2, List.take_zero, List.append_nil]
theorem dimsTo_step {ts : List Ten} (h : axOks ts) {k q : Nat} (hk : k < ts.length) (hq : q < ts[k].labels.length) (hok : (dimsTo ts k q).2 = true) :
  dimsTo ts k (q + 1) = if atT (dimsTo ts k q).1 ts[k].labels[q] ≠ 0 ∧ atT (dimsTo ts k q).1 ts[k].labels[q] ≠ dimAt ts[k] ts[k].labels[q] then ((dimsTo ts k q).1, false) else ((dimsTo ts k q).1.set ts[k].labels[q].toNat (dimAt ts[k] ts[k].labels[q]), true) := by
 have e : ts.getD k ⟨[], [], []⟩ = ts[k] := by simp [hk]
 have hax := h ts[k] (List.getElem_mem hk)
 have hl := tpairs_len hax
 have hx : (tpairs ts[k])[q]'(by omega) = (ts[k].labels[q], dimAt ts[k] ts[k].labels[q]) := by
  rw [dimAt_at hax hq (by have := hax.len; omega)]
  simp [tpairs]
 have e2 : pairsTo ts k (q + 1) = pairsTo ts k q ++ [(ts[k].labels[q], dimAt ts[k] ts[k].labels[q])] := by
  unfold pairsTo
  rw [e, take_ss (by omega), hx, List.append_assoc]
 unfold dimsTo at hok ⊢
 rw [e2, dimsGo_app, if_pos hok, dimsGo]
 simp only [dimsGo]
theorem dimsTo_fail {ts : List Ten} {k q : Nat} (hk : k < ts.length) (hok : (dimsTo ts k q).2 = false) : dimsR ts = dimsTo ts k q := by
 have e : ts.getD k ⟨[], [], []⟩ = ts[k] := by simp [hk]
 have e2 : pairsN ts = pairsTo ts k q ++ ((tpairs ts[k]).drop q ++ pairsN (ts.drop (k + 1))) := by
  unfold pairsTo
  rw [e, List.append_assoc, ← List.append_assoc (List.take q _), List.take_append_drop]
  have e3 : pairsN ts = pairsN (ts.take k) ++ pairsN (ts.drop k) := by unfold pairsN; rw [← List.flatMap_append, List.take_append_drop]
  have e4 : ts.drop k = ts[k] :: ts.drop (k + 1) := List.drop_eq_getElem_cons hk
  rw [e3, e4]
  unfold pairsN
  simp only [List.flatMap_cons]
 unfold dimsR dimsTo at *
 rw [e2, dimsGo_app, hok]
 simp
theorem dimsTo_all {ts : List Ten} {k : Nat} (hk : ts.length ≤ k) : dimsTo ts k 0 = dimsR ts := by
 unfold dimsTo pairsTo dimsR
 rw [List.take_of_length_le hk]
 simp
theorem dimsTo_at {ts : List Ten} (h : axOks ts) {k q : Nat} (hk : k < ts.length) (hq : q ≤ ts[k].labels.length) :
  (∀ j, j < k → consT ts j) → (∀ x, 0 ≤ x ∧ x ≤ 99 → atT (dimsTo ts k 0).1 x = dimN (ts.take k) x) → (dimsTo ts k 0).2 = true →
   ((dimsTo ts k q).2 = true ↔ ∀ x ∈ ts[k].labels.take q, dimN (ts.take k) x = 0 ∨ dimN (ts.take k) x = dimAt ts[k] x) ∧
   ((dimsTo ts k q).2 = true → ∀ x, 0 ≤ x ∧ x ≤ 99 → atT (dimsTo ts k q).1 x = if x ∈ ts[k].labels.take q then dimAt ts[k] x else dimN (ts.take k) x) := by
 intro hc h0 h1
 have hax := h ts[k] (List.getElem_mem hk)
 induction q with
 | zero => exact ⟨⟨fun _ x hx => by simp at hx, fun _ => h1⟩, fun _ x hx => by rw [h0 x hx]; simp⟩
 | succ q ih =>
  obtain ⟨ih1, ih2⟩ := ih (by omega)
  have hq' : q < ts[k].labels.length := by omega
  have hlab : 0 ≤ ts[k].labels[q] ∧ ts[k].labels[q] ≤ 99 := by
   have := hax.2.2 q hq'
   unfold axAt at this
   rw [getD_of hq'] at this
   omega
  have hfr := hax.fresh hq'
  have htk : ∀ x, x ∈ ts[k].labels.take (q + 1) ↔ x ∈ ts[k].labels.take q ∨ x = ts[k].labels[q] := fun x => by rw [mem_take_succ _ _ _ hq', getD_of hq']
  cases hb : (dimsTo ts k q).2 with
  | false =>
   have e : dimsTo ts k (q + 1) = dimsTo ts k q := by
    have e0 : ts.getD k ⟨[], [], []⟩ = ts[k] := by simp [hk]
    have hl := tpairs_len hax
    unfold dimsTo at hb ⊢
    have e2 : pairsTo ts k (q + 1) = pairsTo ts k q ++ [(tpairs ts[k])[q]'(by omega)] := by
     unfold pairsTo
     rw [e0, take_ss (by omega), List.append_assoc]
    rw [e2, dimsGo_app, hb]
    simp
   rw [e, hb]
   refine ⟨⟨fun hf => (by cases hf), fun hf => ?_⟩, fun hf => (by cases hf)⟩
   have := ih1.2 fun x hx => hf x ((htk x).2 (.inl hx))
   rw [hb] at this
   cases this
  | true =>
   have hD := ih2 hb
   have hold := ih1.1 hb
   have hst := dimsTo_step h hk hq' hb
   have hat := hD _ hlab
   rw [if_neg hfr] at hat
   rw [hat] at hst
   have hpos := dimAt_bd hax (List.getElem_mem hq')
   by_cases hbad : dimN (ts.take k) ts[k].labels[q] ≠ 0 ∧ dimN (ts.take k) ts[k].labels[q] ≠ dimAt ts[k] ts[k].labels[q]
   ·rw [if_pos hbad] at hst
    rw [hst]
    refine ⟨⟨fun hf => (by cases hf), fun hf => ?_⟩, fun hf => (by cases hf)⟩
    rcases hf _ ((htk _).2 (.inr rfl)) with e | e
    ·exact absurd e hbad.1
    ·exact absurd e hbad.2
   ·rw [if_neg hbad] at hst
    rw [hst]
    refine ⟨⟨fun _ x hx => ?_, fun _ => rfl⟩, fun _ x hx => ?_⟩
    ·rcases (htk x).1 hx with hx | rfl
     ·exact hold x hx
     ·by_cases e : dimN (ts.take k) ts[k].labels[q] = 0
      ·exact .inl e
      ·exact .inr (Classical.byContradiction fun e' => hbad ⟨e, e'⟩)
    ·rw [atT_set (dimsTo_len ts k q) hlab hx, hD x hx]
     by_cases e : ts[k].labels[q] = x
     ·subst e; rw [if_pos rfl, if_pos ((htk _).2 (.inr rfl))]
     ·rw [if_neg e]
      by_cases hm : x ∈ ts[k].labels.take q
      ·rw [if_pos hm, if_pos ((htk x).2 (.inl hm))]
      ·rw [if_neg hm, if_neg (fun hx => ((htk x).1 hx).elim hm fun e' => e e'.symm)]
theorem dimsTo_ok {ts : List Ten} (h : axOks ts) : ∀ {k : Nat}, k ≤ ts.length → (((dimsTo ts k 0).2 = true ↔ ∀ j, j < k → consT ts j) ∧ ((dimsTo ts k 0).2 = true → ∀ x, 0 ≤ x ∧ x ≤ 99 → atT (dimsTo ts k 0).1 x = dimN (ts.take k) x))
 | 0, _ => by
  rw [dimsTo_zero]
  exact ⟨⟨fun _ j hj => absurd hj (Nat.not_lt_zero j), fun _ => rfl⟩, fun _ x hx => by rw [atT_rep]; simp [dimN]⟩
 | k + 1, hk => by
  obtain ⟨ih1, ih2⟩ := dimsTo_ok h (k := k) (by omega)
  have hk' : k < ts.length := by omega
  have hax := h ts[k] (List.getElem_mem hk')
  rw [← dimsTo_tensor h hk']
  cases hb : (dimsTo ts k 0).2 with
  | false =>
   have hf : (dimsTo ts k ts[k].labels.length).2 = false := by
    unfold dimsTo pairsTo at hb ⊢
    rw [List.take_zero, List.append_nil] at hb
    rw [dimsGo_app, hb]
    simpa using hb
   rw [hf]
   refine ⟨⟨fun e => (by cases e), fun e => ?_⟩, fun e => (by cases e)⟩
   have := ih1.2 fun j hj => e j (by omega)
   rw [hb] at this
   cases this
  | true =>
   obtain ⟨h1, h2⟩ := dimsTo_at h hk' (Nat.le_refl _) (ih1.1 hb) (ih2 hb) hb
   rw [List.take_length] at h1 h2
   refine ⟨h1.trans ⟨fun e j hj => ?_, fun e x hx => e k (by omega) x hk' hx⟩, fun e x hx => ?_⟩
   ·by_cases ej : j = k
    ·subst ej; exact fun x _ hx => e x hx
    ·exact ih1.1 hb j (by omega)
   ·rw [h2 e x hx, dimN_next h hk']
    have hcons := h1.1 e
    by_cases hm : x ∈ ts[k].labels
    ·rw [if_pos hm, if_pos hm]
     rcases hcons x hm with e0 | e0
     ·rw [if_pos e0]
     ·rw [e0, if_neg]; have := dimAt_bd hax hm; omega
    ·rw [if_neg hm, if_neg hm]
     split
     ·rename_i e0; exact e0
     ·rfl
theorem dimsR_ok {ts : List Ten} (h : axOks ts) : ((dimsR ts).2 = true ↔ consB ts) ∧ ((dimsR ts).2 = true → ∀ x, 0 ≤ x ∧ x ≤ 99 → atT (dimsR ts).1 x = dimN ts x) := by
 have := dimsTo_ok h (k := ts.length) (Nat.le_refl _)
 rw [dimsTo_all (Nat.le_refl _), List.take_length] at this
 exact this
theorem dimN_first {ts : List Ten} (h : axOks ts) {k : Nat} (hk : k < ts.length) {x : Int} (hno : ∀ t ∈ ts.take k, x ∉ t.labels) (hm : x ∈ ts[k].labels) : dimN ts x = dimAt ts[k] x := by
 have h0 : dimN (ts.take k) x = 0 := by
  generalize ts.take k = l at hno
  induction l with
  | nil => rfl
  | cons t l ih => rw [dimN, if_neg (hno t (by simp))]; exact ih fun t' ht' => hno t' (by simp [ht'])
 have e4 : ts.drop k = ts[k] :: ts.drop (k + 1) := List.drop_eq_getElem_cons hk
 have e : dimN (ts.take k ++ ts.drop k) x = dimAt ts[k] x := by rw [dimN_app _ _ _ (h.take k).ne, if_pos h0, e4, dimN, if_pos hm]
 rwa [List.take_append_drop] at e
theorem dimN_none : ∀ {ts : List Ten} {x : Int}, (∀ t ∈ ts, x ∉ t.labels) → dimN ts x = 0
 | [], _, _ => rfl
 | t :: l, x, h => by rw [dimN, if_neg (h t (by simp))]; exact dimN_none fun t' ht' => h t' (by simp [ht'])
theorem netOk_iff {N : Net} : netOk N = true ↔ ringOk N.rg = true ∧ N.ts.length ≤ 12 ∧ tenOks N.rg N.ts ∧ consB N.ts ∧ tsize N.os (N.os.map (dimN N.ts)) ≠ -1 := by
 simp only [netOk, Bool.and_eq_true, decide_eq_true_eq]
 exact ⟨fun ⟨⟨⟨⟨a, b⟩, c⟩, d⟩, e⟩ => ⟨a, b, c, d, e⟩, fun ⟨a, b, c, d, e⟩ => ⟨⟨⟨⟨a, b⟩, c⟩, d⟩, e⟩⟩
theorem netOk_no {N : Net} (h : ¬ (ringOk N.rg = true ∧ N.ts.length ≤ 12 ∧ tenOks N.rg N.ts ∧ consB N.ts ∧ tsize N.os (N.os.map (dimN N.ts)) ≠ -1)) : netOk N = false := by
 cases e : netOk N
 ·rfl
 ·exact absurd (netOk_iff.1 e) h
theorem tsize_open {N : Net} (k : Nat) (hk : k < N.os.length) (h : ¬ (0 ≤ N.os[k] ∧ N.os[k] ≤ 99 ∧ dimN N.ts N.os[k] ≠ 0)) (hax : axOks N.ts) : tsize N.os (N.os.map (dimN N.ts)) = -1 := by
 refine tsize_ax k hk fun e => h ?_
 unfold axAt at e
 rw [getD_of hk, getD_of (by simpa using hk)] at e
 simp only [List.getElem_map] at e
 exact ⟨e.1, e.2.1, by omega⟩
theorem netOk_ax {N : Net} (h : netOk N = true) : axOks N.ts := (netOk_iff.1 h).2.2.1.ax
end Go.Proofs.Ytndmbmmnbocmhaa
