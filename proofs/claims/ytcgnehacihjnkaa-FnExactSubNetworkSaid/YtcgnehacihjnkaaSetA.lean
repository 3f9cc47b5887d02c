/-
  Contracts: labels that are marked in an array; labels of a set of tensors. No condition.
-/
import Derived.Test.YtcgnehacihjnkaaCodeQ
import Derived.Test.YtcgnehacihjnkaaBoolA
import Derived.Test.YtcgnehacihjnkaaNetF
import Derived.Test.YtcgnehacihjnkaaLiftI
namespace Go.Proofs.Ytcgnehacihjnkaa
open Go.RowKit Go.Lift Plain
set_option linter.unusedSimpArgs false
set_option linter.unusedVariables false
set_option maxRecDepth 100000

theorem has_take_next {L : List Int} {k : Nat} (h : k < L.length) (x : Int) : has (L.take (k + 1)) x = (has (L.take k) x || decide (x = L[k])) := by
  simp only [has, take_ss h, List.mem_append, List.mem_singleton, Bool.decide_or]
def markF (f : Nat → Bool) (L : List Int) (j : Nat) : Bool := f j || has L j
theorem markLabels_d {f : Nat → Bool} {L : List Int} (hL : L.length ≤ 1099511627776) (hx : ∀ x ∈ L, 0 ≤ x ∧ x ≤ 99) :
    Does Try.prog 69 [.ptr 0 0, .d (ints L)] [some ⟨0, false, bv (bits 100 f)⟩] (.tup []) [some ⟨0, false, bv (bits 100 (markF f L))⟩] := by
  have hz : bits 100 (markF f []) = bits 100 f := bits_congr fun i _ => by simp [markF, has]
  (refine spec_of (by kernel_rfl) Try.func69 k_impl_markLabels (fnOk (Nat.le_of_ble_eq_true rfl) ?_); unfold C_impl_markLabels)
  (simp only [Nat.reduceSub, List.length_cons, List.length_nil, Nat.reduceAdd, ch_init1, ch_init2, ch_init3, ch_init4, ch_init5, ch_init6, ch_init7, ch_init8]; try simp only [ch_rep]); (simp only [go_sem, seval, reduceCtorEq, List.replicate])
  refine wpN_lp (L.length) [false, false, false, false, false, true, false, false, false, true, true, true, true, true, true, true, true] (fun k => [(8, .d (.int k))]) (fun k => [(0, bv (bits 100 (markF f (L.take k))))]) (fun _ => by (simp only [go_sem, seval, reduceCtorEq, dropF_ch, dropF_cons, dropF_nil, cut, cond_true, cond_false]); first | done | rfl) (fun _ => by (simp only [go_sem, seval, reduceCtorEq, cut]); first | done | rfl) (Nat.le_of_ble_eq_true rfl) (by first | (simp only [go_sem, seval, reduceCtorEq, dropF_ch, dropF_cons, dropF_nil, cut, cond_true, cond_false, Int.natCast_zero, Int.natCast_add, Int.natCast_one, hz]; done) | rfl | (simp only [go_sem, seval, reduceCtorEq, dropF_ch, dropF_cons, dropF_nil, cut, cond_true, cond_false, Int.natCast_zero, Int.natCast_add, Int.natCast_one, hz]; rfl)) (by first | (simp only [go_sem, seval, reduceCtorEq, dropF_ch, dropF_cons, dropF_nil, cut, cond_true, cond_false, Int.natCast_zero, Int.natCast_add, Int.natCast_one, hz]; done) | rfl | (simp only [go_sem, seval, reduceCtorEq, dropF_ch, dropF_cons, dropF_nil, cut, cond_true, cond_false, Int.natCast_zero, Int.natCast_add, Int.natCast_one, hz]; rfl)) fun k hk => ?_
  unfold L0_impl_markLabels
  have hbl := bits_len 100 (markF f (L.take k))
  by_cases hlt : k < L.length
  · have d1 : (k : Int) < L.length := by omega
    have g : L[k]? = some L[k] := List.getElem?_eq_getElem hlt
    have hb := hx L[k] (List.getElem_mem hlt)
    have c1 : 0 ≤ L[k] := hb.1
    have c2 : L[k] < 100 := by omega
    have hp : (bits 100 (markF f (L.take k))).take L[k].toNat ++ [true] ++ (bits 100 (markF f (L.take k))).drop (L[k].toNat + 1) = bits 100 (markF f (L.take (k + 1))) := by
      rw [bits_put _ _ (by omega)]
      refine bits_congr fun i _ => ?_
      simp only [markF, has_take_next hlt]
      by_cases e : i = L[k].toNat
      · rw [if_pos e]
        have : ((i : Nat) : Int) = L[k] := by omega
        simp [this]
      · rw [if_neg e]
        have : ¬ ((i : Nat) : Int) = L[k] := by omega
        simp [this]
    simp (disch := omega) only [go_sem, seval, reduceCtorEq, d1, g, c1, c2]
    refine ⟨by omega, ?_⟩
    (refine Next.drop [false, false, false, false, false, true, false, false, false, true, true, true, true, true, true, true, true] (by omega) (Nat.le_of_ble_eq_true rfl) ?_ ?_ <;> first | (simp only [go_sem, seval, reduceCtorEq, dropF_ch, dropF_cons, dropF_nil, cut, cond_true, cond_false, Int.natCast_zero, Int.natCast_add, Int.natCast_one, hp]; done) | rfl | (simp only [go_sem, seval, reduceCtorEq, dropF_ch, dropF_cons, dropF_nil, cut, cond_true, cond_false, Int.natCast_zero, Int.natCast_add, Int.natCast_one, hp]; rfl) | skip)
  · have d1 : ¬ (k : Int) < L.length := by omega
    have htk : L.take k = L := List.take_of_length_le (by omega)
    simp (disch := omega) only [go_sem, seval, reduceCtorEq, d1, htk]
    (refine FnEnd.mk (Nat.le_of_ble_eq_true rfl) rfl (of_decide_eq_true rfl) ?_ ?_ <;> try simp only [go_sem, seval, reduceCtorEq])

/-! ### Some of the tensors -/
def pickT (p : Nat → Bool) (ts : List Ten) : Nat → List Ten
  | 0 => []
  | k + 1 => pickT p ts k ++ (if p k = true then [tget ts k] else [])
section
variable {p : Nat → Bool} {ts : List Ten} {k : Nat}
theorem pickT_yes (h : p k = true) (hk : k < ts.length) : pickT p ts (k + 1) = pickT p ts k ++ [ts[k]] := by simp [pickT, h, tget_at hk]
theorem pickT_no (h : p k = false) : pickT p ts (k + 1) = pickT p ts k := by simp [pickT, h]
theorem pickT_len (p : Nat → Bool) (ts : List Ten) : ∀ k, (pickT p ts k).length ≤ k
  | 0 => Nat.le_refl _
  | k + 1 => by
    have := pickT_len p ts k
    simp only [pickT, List.length_append]
    split <;> simp <;> omega
theorem pickT_mem {t : Ten} : ∀ {k}, t ∈ pickT p ts k ↔ ∃ i, i < k ∧ p i = true ∧ t = tget ts i
  | 0 => by simp [pickT]
  | k + 1 => by
    rw [pickT, List.mem_append, pickT_mem]
    constructor
    · rintro (⟨i, h1, h2, h3⟩ | h)
      · exact ⟨i, by omega, h2, h3⟩
      · split at h
        · rename_i hp
          simp only [List.mem_singleton] at h
          exact ⟨k, by omega, hp, h⟩
        · cases h
    · rintro ⟨i, h1, h2, h3⟩
      by_cases e : i = k
      · subst e
        rw [if_pos h2]
        exact .inr (by simp [h3])
      · exact .inl ⟨i, by omega, h2, h3⟩
theorem pickT_sub (hk : k ≤ ts.length) {t : Ten} (h : t ∈ pickT p ts k) : t ∈ ts := by
  obtain ⟨i, h1, h2, rfl⟩ := pickT_mem.1 h
  rw [tget_at (by omega)]
  exact List.getElem_mem _
end
/-- Does some tensor have the label? -/
def anyL (ts : List Ten) (x : Int) : Bool := ts.any fun t => has t.labels x
theorem anyL_dim {ts : List Ten} (h : axOks ts) (x : Int) : anyL ts x = (dimN ts x != 0) := by
  have key : anyL ts x = true ↔ dimN ts x ≠ 0 := by
    unfold anyL
    simp only [List.any_eq_true, has_true]
    constructor
    · rintro ⟨t, ht, hx⟩
      -- the first one
      have : ∃ k, ∃ hk : k < ts.length, x ∈ ts[k].labels ∧ ∀ t ∈ ts.take k, x ∉ t.labels := by
        clear h
        induction ts with
        | nil => cases ht
        | cons u l ih =>
          by_cases hu : x ∈ u.labels
          · exact ⟨0, by simp, hu, by simp⟩
          · rcases List.mem_cons.1 ht with e | ht
            · subst e; exact absurd hx hu
            · obtain ⟨k, hk, h1, h2⟩ := ih ht
              refine ⟨k + 1, by simpa using hk, by simpa using h1, fun v hv => ?_⟩
              simp only [List.take_succ_cons, List.mem_cons] at hv
              rcases hv with rfl | hv
              · exact hu
              · exact h2 v hv
      obtain ⟨k, hk, h1, h2⟩ := this
      rw [dimN_first h hk h2 h1]
      have := dimAt_bd (h ts[k] (List.getElem_mem hk)) h1
      omega
    · intro h0
      false_or_by_contra
      rename_i hc
      exact h0 (dimN_none fun t ht hx => hc ⟨t, ht, hx⟩)
  cases h1 : anyL ts x
  · have : dimN ts x = 0 := by
      false_or_by_contra
      rename_i hc
      rw [key.2 hc] at h1
      cases h1
    simp [this]
  · have := key.1 h1
    simp [this]
theorem ax_labels {t : Ten} (h : axOk t.labels t.dims) : ∀ x ∈ t.labels, 0 ≤ x ∧ x ≤ 99 := fun x hx => by
  obtain ⟨k, hk, rfl⟩ := List.mem_iff_getElem.1 hx
  have := h.2.2 k hk
  unfold axAt at this
  rw [getD_of hk] at this
  omega
theorem net_open {N : Net} (h : netOk N = true) : ∀ x ∈ N.os, 0 ≤ x ∧ x ≤ 99 := fun x hx => by
  have h5 := (netOk_iff.1 h).2.2.2.2
  obtain ⟨k, hk, rfl⟩ := List.mem_iff_getElem.1 hx
  false_or_by_contra
  rename_i hc
  exact h5 (tsize_open k hk (fun e => hc ⟨e.1, e.2.1⟩) (netOk_ax h))
def anyN (ts : List Ten) (j : Nat) : Bool := anyL ts j
theorem any_next {p : Nat → Bool} {ts : List Ten} {k : Nat} (hk : k < ts.length) (h : p k = true) : bits 100 (markF (anyN (pickT p ts k)) ts[k].labels) = bits 100 (anyN (pickT p ts (k + 1))) :=
  bits_congr fun j _ => by simp [anyN, markF, anyL, pickT_yes h hk]
/-! ### Lists of tensors that nobody writes -/
def tcD (ts : List Ten) : List AV := (tcs ts).map .d
section
variable {ts : List Ten}
theorem tcD_len : (tcD ts).length = ts.length * 3 := by simp [tcD, tcs_len]
theorem tcD_nil : tcD [] = [] := nr rfl
theorem tcD_snoc (t : Ten) : tcD ts ++ [.d (ints t.labels), .d (ints t.dims), .d (ints t.data)] = tcD (ts ++ [t]) := by simp [tcD, tcs_app, tcs]
theorem rnL_dmap (ρ : Nat → Option Nat) : ∀ l : List D, rnL ρ (l.map .d) = l.map .d
  | [] => rfl
  | x :: l => by rw [List.map_cons, rnL, rnL_dmap ρ l]; rfl
theorem cellsD_dmap : ∀ l : List D, cellsD (l.map .d) = some l
  | [] => rfl
  | x :: l => by rw [List.map_cons, cellsD, cellsD_dmap l]; rfl
theorem rnL_tcD (ρ : Nat → Option Nat) : rnL ρ (tcD ts) = tcD ts := rnL_dmap ρ _
theorem cellsD_tcD : cellsD (tcD ts) = some (tcs ts) := cellsD_dmap _
theorem tcD_all : (tcD ts).take (ts.length * 3) = tcD ts := List.take_of_length_le (by rw [tcD_len]; exact Nat.le_refl _)
end
attribute [go_sem] tcD_len rnL_tcD cellsD_tcD tcD_all
theorem filter_pickTo (p q : Nat → Bool) (n : Nat) : (pickTo p n).filter (fun x => q x.toNat) = pickTo (fun i => p i && q i) n := by
  unfold pickTo
  rw [List.filter_map, List.filter_filter]
  congr 1
  exact List.filter_congr fun i _ => by simp [Bool.and_comm]
end Go.Proofs.Ytcgnehacihjnkaa
