/-
  Plain: labellings of points by classes, merged edge by edge; how many classes; forests. No condition.
-/
import Derived.Test.YtjoopfojiiklnaaPlN
namespace Go.Proofs.Ytjoopfojiiklnaa
open Go.RowKit Go.Lift Plain
set_option linter.unusedSimpArgs false
set_option linter.unusedVariables false
set_option maxRecDepth 100000

/-- r' joins the classes of u and v. -/
def Mg (r r' : Nat → Nat) (u v : Nat) : Prop := ∀ x y, r' x = r' y ↔ (r x = r y ∨ ((r x = r u ∨ r x = r v) ∧ (r y = r u ∨ r y = r v)))
def mrg (r : Nat → Nat) (u v j : Nat) : Nat := if r j = r v then r u else r j
def smg (r : Nat → Nat) (u v j : Nat) : Nat := if r j = max (r u) (r v) then min (r u) (r v) else r j
theorem mrg_ok (r : Nat → Nat) (u v : Nat) : Mg r (mrg r u v) u v := fun x y => by
  unfold mrg
  split <;> split <;> omega
theorem smg_ok (r : Nat → Nat) (u v : Nat) : Mg r (smg r u v) u v := fun x y => by
  unfold smg
  split <;> split <;> omega
/-- How many pass, of the numbers below n. -/
def cntP (P : Nat → Bool) : Nat → Nat
  | 0 => 0
  | n + 1 => cntP P n + (if P n = true then 1 else 0)
/-- The first of its class. -/
def frs (r : Nat → Nat) (i : Nat) : Bool := decide (∀ j, j < i → r j ≠ r i)
/-- The number of classes. -/
def cnt (r : Nat → Nat) (n : Nat) : Nat := cntP (frs r) n
section
variable {P Q : Nat → Bool} {r r' S : Nat → Nat} {u v n w : Nat}
theorem cntP_congr : ∀ {n}, (∀ i, i < n → P i = Q i) → cntP P n = cntP Q n
  | 0, _ => rfl
  | n + 1, h => by rw [cntP, cntP, cntP_congr fun i hi => h i (by omega), h n (by omega)]
theorem cntP_rm : ∀ {n}, (∀ i, i < n → Q i = (P i && decide (i ≠ w))) → P w = true → w < n → cntP Q n + 1 = cntP P n
  | 0, _, _, h => absurd h (Nat.not_lt_zero w)
  | n + 1, h, hp, hw => by
    rw [cntP, cntP]
    by_cases e : w = n
    · subst e
      have h1 : cntP Q w = cntP P w := cntP_congr fun i hi => by rw [h i (by omega), decide_eq_true (show i ≠ w by omega), Bool.and_true]
      have h2 : Q w = false := by rw [h w (by omega)]; simp
      rw [h1, h2, hp]
      simp
    · have h1 := cntP_rm (n := n) (fun i hi => h i (by omega)) hp (by omega)
      have h2 : Q n = P n := by rw [h n (by omega), decide_eq_true (show n ≠ w by omega), Bool.and_true]
      rw [h2]
      omega
theorem cntP_app (P : Nat → Bool) (m : Nat) : ∀ q, cntP P (m + q) = cntP P m + cntP (fun i => P (m + i)) q
  | 0 => rfl
  | q + 1 => by rw [← Nat.add_assoc, cntP, cntP_app P m q, cntP]; omega
theorem cntP_not (P : Nat → Bool) : ∀ n, cntP (fun i => !P i) n + cntP P n = n
  | 0 => rfl
  | n + 1 => by
    have := cntP_not P n
    rw [cntP, cntP]
    cases P n <;> simp <;> omega
theorem cntP_len (P : Nat → Bool) : ∀ n, ((List.range n).filter P).length = cntP P n
  | 0 => rfl
  | n + 1 => by
    rw [List.range_succ, List.filter_append, List.length_append, cntP_len P n, cntP]
    cases h : P n <;> simp [h]
theorem frs_iff {i : Nat} : frs r i = true ↔ ∀ j, j < i → r j ≠ r i := by simp only [frs, decide_eq_true_eq]
theorem cnt_ker (h : ∀ x y, x < n → y < n → (r x = r y ↔ r' x = r' y)) : cnt r n = cnt r' n := cntP_congr fun i hi => by
  rw [Bool.eq_iff_iff, frs_iff, frs_iff]
  exact ⟨fun hh j hj e => hh j hj ((h j i (by omega) hi).2 e), fun hh j hj e => hh j hj ((h j i (by omega) hi).1 e)⟩
theorem first_of (r : Nat → Nat) (u : Nat) : ∃ p, p ≤ u ∧ r p = r u ∧ frs r p = true := by
  induction u using Nat.strongRecOn with
  | _ u ih =>
    cases h : frs r u with
    | true => exact ⟨u, Nat.le_refl u, rfl, h⟩
    | false =>
      have : ∃ j, j < u ∧ r j = r u := by
        false_or_by_contra
        rename_i hc
        rw [frs_iff.2 fun j hj e => hc ⟨j, hj, e⟩] at h
        cases h
      obtain ⟨j, hj, e⟩ := this
      obtain ⟨p, h1, h2, h3⟩ := ih j hj
      exact ⟨p, by omega, by rw [h2, e], h3⟩
theorem frs_uniq {p i : Nat} (hp : frs r p = true) (hi : frs r i = true) (e : r p = r i) : p = i := by
  rcases Nat.lt_trichotomy p i with h | h | h
  · exact absurd e (frs_iff.1 hi p h)
  · exact h
  · exact absurd e.symm (frs_iff.1 hp i h)
/-- A join of two classes: one class fewer. -/
theorem cnt_mg (hm : Mg r r' u v) (hu : u < n) (hv : v < n) (hne : r u ≠ r v) : cnt r' n + 1 = cnt r n := by
  obtain ⟨p, p1, p2, p3⟩ := first_of r u
  obtain ⟨q, q1, q2, q3⟩ := first_of r v
  have hpq : p ≠ q := fun e => hne (by rw [← p2, e, q2])
  have hw : frs r (max p q) = true := by
    rcases Nat.lt_or_ge p q with h | h
    · rw [Nat.max_eq_right (by omega)]; exact q3
    · rw [Nat.max_eq_left h]; exact p3
  refine cntP_rm (w := max p q) (fun i hi => ?_) hw (by omega)
  rw [Bool.eq_iff_iff, Bool.and_eq_true, frs_iff, frs_iff, decide_eq_true_eq]
  constructor
  · intro h
    refine ⟨fun j hj e => h j hj ((hm j i).2 (.inl e)), fun e => ?_⟩
    subst e
    rcases Nat.lt_or_ge p q with hl | hl
    · rw [Nat.max_eq_right (by omega)] at h
      exact h p hl ((hm p q).2 (.inr ⟨.inl p2, .inr q2⟩))
    · rw [Nat.max_eq_left hl] at h
      exact h q (by omega) ((hm q p).2 (.inr ⟨.inr q2, .inl p2⟩))
  · rintro ⟨h1, h2⟩ j hj e
    rcases (hm j i).1 e with h3 | ⟨h3, h4⟩
    · exact h1 j hj h3
    · have hpj : min p q ≤ j := by
        rcases h3 with h3 | h3
        · have : ¬ j < p := fun hh => frs_iff.1 p3 j hh (by rw [h3, p2])
          omega
        · have : ¬ j < q := fun hh => frs_iff.1 q3 j hh (by rw [h3, q2])
          omega
      have hii : i = p ∨ i = q := by
        rcases h4 with h4 | h4
        · exact .inl (frs_uniq (frs_iff.2 h1) p3 (by rw [h4, p2]))
        · exact .inr (frs_uniq (frs_iff.2 h1) q3 (by rw [h4, q2]))
      omega
theorem cnt_same (hm : Mg r r' u v) (he : r u = r v) : cnt r' n = cnt r n := cnt_ker fun x y _ _ => by
  rw [hm x y]
  omega
end
/-- Edge by edge. -/
def fdg (st : (Nat → Nat) → Nat → Nat → Nat → Nat) (r : Nat → Nat) : List (Nat × Nat) → Nat → Nat
  | [] => r
  | e :: l => fdg st (st r e.1 e.2) l
/-- The edges that join nothing. -/
def redu (st : (Nat → Nat) → Nat → Nat → Nat → Nat) (r : Nat → Nat) : List (Nat × Nat) → Nat
  | [] => 0
  | e :: l => (if r e.1 = r e.2 then 1 else 0) + redu st (st r e.1 e.2) l
section
variable {st : (Nat → Nat) → Nat → Nat → Nat → Nat} {r S : Nat → Nat} {n : Nat}
theorem fdg_app : ∀ {a b : List (Nat × Nat)} {r : Nat → Nat}, fdg st r (a ++ b) = fdg st (fdg st r a) b
  | [], _, _ => rfl
  | _ :: a, b, _ => by rw [List.cons_append, fdg, fdg, fdg_app]
theorem fdg_snoc {a : List (Nat × Nat)} {u v : Nat} : fdg st r (a ++ [(u, v)]) = st (fdg st r a) u v := by rw [fdg_app]; rfl
theorem redu_app : ∀ {a b : List (Nat × Nat)} {r : Nat → Nat}, redu st r (a ++ b) = redu st r a + redu st (fdg st r a) b
  | [], _, _ => by simp [redu, fdg]
  | _ :: a, b, _ => by rw [List.cons_append, redu, redu, fdg, redu_app, Nat.add_assoc]
theorem fdg_mono (hs : ∀ r u v, Mg r (st r u v) u v) : ∀ {l : List (Nat × Nat)} {r : Nat → Nat} {x y : Nat}, r x = r y → fdg st r l x = fdg st r l y
  | [], _, _, _, h => h
  | e :: l, r, x, y, h => fdg_mono hs (l := l) ((hs r e.1 e.2 x y).2 (.inl h))
theorem fdg_edge (hs : ∀ r u v, Mg r (st r u v) u v) : ∀ {l : List (Nat × Nat)} {r : Nat → Nat} {u v : Nat}, (u, v) ∈ l → fdg st r l u = fdg st r l v
  | e :: l, r, u, v, h => by
    rcases List.mem_cons.1 h with h | h
    · subst h
      exact fdg_mono hs (l := l) ((hs r u v u v).2 (.inr ⟨.inl rfl, .inr rfl⟩))
    · exact fdg_edge hs (l := l) (r := st r e.1 e.2) h
theorem fdg_least (hs : ∀ r u v, Mg r (st r u v) u v) : ∀ {l : List (Nat × Nat)} {r : Nat → Nat}, (∀ x y, r x = r y → S x = S y) → (∀ u v, (u, v) ∈ l → S u = S v) → ∀ x y, fdg st r l x = fdg st r l y → S x = S y
  | [], _, h, _, x, y, e => h x y e
  | d :: l, r, h, hE, x, y, e => by
    refine fdg_least hs (l := l) (r := st r d.1 d.2) (fun a b hab => ?_) (fun u v hm => hE u v (List.mem_cons_of_mem _ hm)) x y e
    have h0 := hE d.1 d.2 (List.mem_cons_self ..)
    rcases (hs r d.1 d.2 a b).1 hab with h1 | ⟨h1, h2⟩
    · exact h a b h1
    · have ha : S a = S d.1 := by
        rcases h1 with h1 | h1
        · exact h _ _ h1
        · rw [h _ _ h1, h0]
      have hb : S b = S d.1 := by
        rcases h2 with h2 | h2
        · exact h _ _ h2
        · rw [h _ _ h2, h0]
      rw [ha, hb]
theorem cnt_fdg (hs : ∀ r u v, Mg r (st r u v) u v) : ∀ {l : List (Nat × Nat)} {r : Nat → Nat}, (∀ e ∈ l, e.1 < n ∧ e.2 < n) → cnt (fdg st r l) n + l.length = cnt r n + redu st r l
  | [], r, _ => rfl
  | e :: l, r, h => by
    have ih := cnt_fdg hs (l := l) (r := st r e.1 e.2) fun d hd => h d (List.mem_cons_of_mem _ hd)
    have he := h e (List.mem_cons_self ..)
    rw [fdg, List.length_cons, redu]
    by_cases c : r e.1 = r e.2
    · have := cnt_same (n := n) (hs r e.1 e.2) c
      rw [if_pos c]
      omega
    · have := cnt_mg (hs r e.1 e.2) he.1 he.2 c
      rw [if_neg c]
      omega
theorem cntP_true : ∀ n, cntP (fun _ => true) n = n
  | 0 => rfl
  | n + 1 => by rw [cntP, cntP_true n]; rfl
theorem cnt_id (n : Nat) : cnt (fun i => i) n = n := by
  have h : cnt (fun i => i) n = cntP (fun _ => true) n := cntP_congr fun i _ => frs_iff.2 fun j hj => by omega
  rw [h, cntP_true]
end
/-- Classes named by their least points. -/
def Low (r : Nat → Nat) : Prop := ∀ j, r j ≤ j ∧ r (r j) = r j
theorem low_id : Low fun i => i := fun j => ⟨Nat.le_refl j, rfl⟩
theorem low_smg {r : Nat → Nat} (h : Low r) (u v : Nat) : Low (smg r u v) := fun j => by
  have hj := h j
  have hu := h u
  have hv := h v
  have hb : r (min (r u) (r v)) = min (r u) (r v) := by
    rcases Nat.le_total (r u) (r v) with e | e
    · rw [Nat.min_eq_left e]; exact hu.2
    · rw [Nat.min_eq_right e]; exact hv.2
  unfold smg
  by_cases c : r j = max (r u) (r v)
  · rw [if_pos c, hb]
    refine ⟨by omega, ?_⟩
    split <;> omega
  · rw [if_neg c, hj.2, if_neg c]
    exact ⟨hj.1, rfl⟩
theorem low_fdg : ∀ {l : List (Nat × Nat)} {r : Nat → Nat}, Low r → Low (fdg smg r l)
  | [], _, h => h
  | e :: l, r, h => low_fdg (l := l) (low_smg h e.1 e.2)
theorem low_frs {r : Nat → Nat} (h : Low r) (i : Nat) : frs r i = decide (r i = i) := by
  have hi := h i
  rw [Bool.eq_iff_iff, frs_iff, decide_eq_true_eq]
  constructor
  · intro hh
    false_or_by_contra
    rename_i hc
    exact hh (r i) (by omega) hi.2
  · intro e j hj hc
    have := (h j).1
    omega
/-! ### Tensors and labels -/
section
variable {m : Nat} {L : Nat → List Int}
def shr (L : Nat → List Int) (i k : Nat) : Bool := (L i).any fun x => has (L k) x
def edgT (m : Nat) (L : Nat → List Int) (k : Nat) : List (Nat × Nat) := (List.range k).flatMap fun i => (L i).map fun x => (i, m + x.toNat)
def edgQ (m : Nat) (L : Nat → List Int) (k q : Nat) : List (Nat × Nat) := edgT m L k ++ ((L k).take q).map fun x => (k, m + x.toNat)
def metT (L : Nat → List Int) (i : Nat) : List (Nat × Nat) := (List.range i).flatMap fun i => ((List.range i).filter (shr L i)).map fun k => (i, k)
def metQ (L : Nat → List Int) (i k : Nat) : List (Nat × Nat) := metT L i ++ ((List.range k).filter (shr L i)).map fun k => (i, k)
theorem shr_iff {i k : Nat} : shr L i k = true ↔ ∃ x, x ∈ L i ∧ x ∈ L k := by
  simp only [shr, List.any_eq_true, has_true]
theorem edgQ_zero (k : Nat) : edgQ m L k 0 = edgT m L k := by simp [edgQ]
theorem edgQ_next {k q : Nat} (hq : q < (L k).length) : edgQ m L k (q + 1) = edgQ m L k q ++ [(k, m + (L k)[q].toNat)] := by
  rw [edgQ, take_ss hq, List.map_append, ← List.append_assoc]
  rfl
theorem edgQ_end {k q : Nat} (hq : (L k).length ≤ q) : edgQ m L k q = edgT m L (k + 1) := by
  rw [edgQ, List.take_of_length_le hq, edgT, edgT, List.range_succ, List.flatMap_append]
  simp
theorem metQ_zero (i : Nat) : metQ L i 0 = metT L i := by simp [metQ]
theorem metQ_yes {i k : Nat} (h : shr L i k = true) : metQ L i (k + 1) = metQ L i k ++ [(i, k)] := by simp [metQ, List.range_succ, h]
theorem metQ_no {i k : Nat} (h : shr L i k = false) : metQ L i (k + 1) = metQ L i k := by simp [metQ, List.range_succ, h]
theorem metQ_end (i : Nat) : metQ L i i = metT L (i + 1) := by
  rw [metQ, metT, metT, List.range_succ (n := i), List.flatMap_append]
  simp
theorem edgT_mem {k u v : Nat} : (u, v) ∈ edgT m L k ↔ ∃ x, u < k ∧ x ∈ L u ∧ v = m + x.toNat := by
  simp only [edgT, List.mem_flatMap, List.mem_range, List.mem_map, Prod.mk.injEq]
  constructor
  · rintro ⟨i, hi, x, hx, rfl, rfl⟩; exact ⟨x, hi, hx, rfl⟩
  · rintro ⟨x, hi, hx, rfl⟩; exact ⟨u, hi, x, hx, rfl, rfl⟩
theorem metT_mem {i u v : Nat} : (u, v) ∈ metT L i ↔ u < i ∧ v < u ∧ shr L u v = true := by
  simp only [metT, List.mem_flatMap, List.mem_range, List.mem_map, List.mem_filter, Prod.mk.injEq]
  constructor
  · rintro ⟨i, hi, x, ⟨h1, h2⟩, rfl, rfl⟩; exact ⟨hi, h1, h2⟩
  · rintro ⟨h1, h2, h3⟩; exact ⟨u, h1, v, ⟨h2, h3⟩, rfl, rfl⟩
/-- The parts of the tensors. -/
def prt (m : Nat) (L : Nat → List Int) : Nat → Nat := fdg smg (fun i => i) (metT L m)
/-- The roots of tensors and labels. -/
def rts (m : Nat) (L : Nat → List Int) : Nat → Nat := fdg mrg (fun i => i) (edgT m L m)
/-- The first tensor with a label. -/
def occ (m : Nat) (L : Nat → List Int) (q : Nat) : Bool := (List.range m).any fun i => has (L i) q
theorem occ_iff {q : Nat} : occ m L q = true ↔ ∃ i, i < m ∧ (q : Int) ∈ L i := by simp only [occ, List.any_eq_true, List.mem_range, has_true]
theorem prt_shr {i k : Nat} (hi : i < m) (hk : k < m) {x : Int} (h1 : x ∈ L i) (h2 : x ∈ L k) : prt m L i = prt m L k := by
  rcases Nat.lt_trichotomy i k with h | h | h
  · exact (fdg_edge smg_ok (metT_mem.2 ⟨hk, h, shr_iff.2 ⟨x, h2, h1⟩⟩)).symm
  · rw [h]
  · exact fdg_edge smg_ok (metT_mem.2 ⟨hi, h, shr_iff.2 ⟨x, h1, h2⟩⟩)
theorem prt_low : Low (prt m L) := low_fdg low_id
theorem rts_edge {i : Nat} (hi : i < m) {x : Int} (hx : x ∈ L i) : rts m L i = rts m L (m + x.toNat) := fdg_edge mrg_ok (edgT_mem.2 ⟨x, hi, hx, rfl⟩)
open Classical in
/-- The tensors' parts, and each label's. -/
noncomputable def both (m : Nat) (L : Nat → List Int) (j : Nat) : Nat :=
  if j < m then prt m L j else if h : ∃ i, i < m ∧ ((j - m : Nat) : Int) ∈ L i then prt m L h.choose else j
theorem both_ten {j : Nat} (h : j < m) : both m L j = prt m L j := if_pos h
theorem both_lab {q i : Nat} (hi : i < m) (hq : (q : Int) ∈ L i) : both m L (m + q) = prt m L i := by
  have hex : ∃ i, i < m ∧ ((m + q - m : Nat) : Int) ∈ L i := ⟨i, hi, by rw [Nat.add_sub_cancel_left]; exact hq⟩
  rw [both, if_neg (by omega), dif_pos hex]
  have hc := hex.choose_spec
  exact prt_shr hc.1 hi hc.2 (by rw [Nat.add_sub_cancel_left]; exact hq)
theorem both_no {q : Nat} (h : occ m L q = false) : both m L (m + q) = m + q := by
  rw [both, if_neg (by omega), dif_neg]
  rintro ⟨i, hi, hx⟩
  rw [Nat.add_sub_cancel_left] at hx
  rw [occ_iff.2 ⟨i, hi, hx⟩] at h
  cases h
/-- Both ways of merging come to the same classes. -/
theorem ker_eq (hL : ∀ i, i < m → ∀ x ∈ L i, 0 ≤ x) (x y : Nat) : rts m L x = rts m L y ↔ both m L x = both m L y := by
  constructor
  · refine fdg_least mrg_ok (S := both m L) (fun a b e => by rw [e]) (fun u v hm => ?_) x y
    obtain ⟨z, hu, hz, rfl⟩ := edgT_mem.1 hm
    have h0 := hL u hu z hz
    rw [both_ten hu, both_lab hu (show ((z.toNat : Nat) : Int) ∈ L u by rw [Int.toNat_of_nonneg h0]; exact hz)]
  · have key : ∀ a b, a < m → b < m → prt m L a = prt m L b → rts m L a = rts m L b := fun a b _ _ e => by
      refine fdg_least smg_ok (S := rts m L) (fun a b e => by rw [e]) (fun u v hm => ?_) a b e
      obtain ⟨hu, hv, hs⟩ := metT_mem.1 hm
      obtain ⟨z, z1, z2⟩ := shr_iff.1 hs
      rw [rts_edge hu z1, rts_edge (by omega) z2]
    -- each point is a tensor's, or a label's of its own
    have rep : ∀ a, (∃ i, i < m ∧ rts m L a = rts m L i ∧ both m L a = prt m L i) ∨ (m ≤ a ∧ both m L a = a) := fun a => by
      by_cases ha : a < m
      · exact .inl ⟨a, ha, rfl, both_ten ha⟩
      · obtain ⟨q, rfl⟩ : ∃ q, a = m + q := ⟨a - m, by omega⟩
        cases ho : occ m L q with
        | true =>
          obtain ⟨i, hi, hq⟩ := occ_iff.1 ho
          refine .inl ⟨i, hi, ?_, both_lab hi hq⟩
          have := rts_edge hi hq
          rw [Int.toNat_natCast] at this
          exact this.symm
        | false => exact .inr ⟨by omega, both_no ho⟩
    intro e
    rcases rep x with ⟨i, hi, h1, h2⟩ | ⟨h1, h2⟩ <;> rcases rep y with ⟨k, hk, h3, h4⟩ | ⟨h3, h4⟩
    · rw [h1, h3]
      exact key i k hi hk (by rw [← h2, ← h4, e])
    · have := (prt_low (m := m) (L := L) i).1
      omega
    · have := (prt_low (m := m) (L := L) k).1
      omega
    · rw [← h2, ← h4, e]
theorem cnt_both (q : Nat) : cnt (both m L) (m + q) = cnt (prt m L) m + cntP (fun i => !occ m L i) q := by
  rw [cnt, cntP_app]
  congr 1
  · exact cntP_congr fun i hi => by
      rw [Bool.eq_iff_iff, frs_iff, frs_iff]
      constructor
      · intro h j hj e
        exact h j hj (by rw [both_ten hi, both_ten (by omega), e])
      · intro h j hj e
        rw [both_ten hi, both_ten (by omega)] at e
        exact h j hj e
  · refine cntP_congr fun i _ => ?_
    cases ho : occ m L i with
    | true =>
      obtain ⟨t, ht, hq⟩ := occ_iff.1 ho
      cases hf : frs (both m L) (m + i) with
      | false => rfl
      | true => exact absurd (by rw [both_ten ht, both_lab ht hq]) (frs_iff.1 hf t (by omega))
    | false =>
      refine frs_iff.2 fun j hj e => ?_
      rw [both_no ho] at e
      by_cases hjm : j < m
      · rw [both_ten hjm] at e
        have := (prt_low (m := m) (L := L) j).1
        omega
      · obtain ⟨p, rfl⟩ : ∃ p, j = m + p := ⟨j - m, by omega⟩
        cases hp : occ m L p with
        | true =>
          obtain ⟨t, ht, hq⟩ := occ_iff.1 hp
          rw [both_lab ht hq] at e
          have := (prt_low (m := m) (L := L) t).1
          omega
        | false => rw [both_no hp] at e; omega
/-- The number of parts. -/
def prtN (m : Nat) (L : Nat → List Int) : Nat := cntP (fun i => decide (prt m L i = i)) m
/-- The reference's sum is right if no edge is one too many. -/
theorem forest_iff (hL : ∀ i, i < m → ∀ x ∈ L i, 0 ≤ x ∧ x ≤ 99) : redu mrg (fun i => i) (edgT m L m) = 0 ↔ (edgT m L m).length + prtN m L = m + cntP (occ m L) 100 := by
  have h1 := cnt_fdg (n := m + 100) mrg_ok (l := edgT m L m) (r := fun i => i) fun e he => by
    obtain ⟨x, h1, h2, h3⟩ := edgT_mem.1 (show (e.1, e.2) ∈ _ from he)
    have := hL _ h1 x h2
    omega
  have h2 : cnt (fdg mrg (fun i => i) (edgT m L m)) (m + 100) = cnt (both m L) (m + 100) := cnt_ker fun x y _ _ => ker_eq (fun i hi x hx => (hL i hi x hx).1) x y
  have h3 := cnt_both (m := m) (L := L) 100
  have h4 : cnt (prt m L) m = prtN m L := cntP_congr fun i _ => low_frs prt_low i
  have h5 := cntP_not (occ m L) 100
  rw [cnt_id] at h1
  omega
end
end Go.Proofs.Ytjoopfojiiklnaa
