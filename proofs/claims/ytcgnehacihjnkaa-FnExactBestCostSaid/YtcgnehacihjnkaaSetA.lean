/-
  Contracts: labels that are marked in an array; labels of a set of tensors. No condition.
-/
import Derived.Test.YtcgnehacihjnkaaMgBestCostA
import Derived.Test.YtcgnehacihjnkaaBoolA
import Derived.Test.YtcgnehacihjnkaaNetF
import Derived.Test.YtcgnehacihjnkaaLiftI
namespace Go.Proofs.Ytcgnehacihjnkaa
open Go.RowKit Go.Lift Plain
set_option linter.unusedSimpArgs false
set_option linter.unusedVariables false
set_option maxRecDepth 100000

theorem has_take_next {L : List Int} {k : Nat} (h : k < L.length) (x : Int) : has (L.take (k + 1)) x = (has (L.take k) x || decide (x = L[k])) := by
  simp only [has, take_ss h, List.mem_append, List.mem_singleton, Bool.decide_or]
def markF (f : Nat → Bool) (L : List Int) (j : Nat) : Bool := f j || has L j
theorem markLabels_d {f : Nat → Bool} {L : List Int} (hL : L.length ≤ 1099511627776) (hx : ∀ x ∈ L, 0 ≤ x ∧ x ≤ 99) :
    Does Try.prog 69 [.ptr 0 0, .d (ints L)] [some ⟨0, false, bv (bits 100 f)⟩] (.tup []) [some ⟨0, false, bv (bits 100 (markF f L))⟩] := by
  have hz : bits 100 (markF f []) = bits 100 f := bits_congr fun i _ => by simp [markF, has]
  (refine spec_of (by kernel_rfl) Try.func69 k_impl_markLabels (fnOk (Nat.le_of_ble_eq_true rfl) ?_); unfold C_impl_markLabels)
  (simp only [Nat.reduceSub, List.length_cons, List.length_nil, Nat.reduceAdd, ch_init1, ch_init2, ch_init3, ch_init4, ch_init5, ch_init6, ch_init7, ch_init8]; try simp only [ch_rep]); (simp only [go_sem, seval, reduceCtorEq, List.replicate])
  refine wpN_lp (L.length) [false, false, false, false, false, true, false, false, false, true, true, true, true, true, true, true, true] (fun k => [(8, .d (.int k))]) (fun k => [(0, bv (bits 100 (markF f (L.take k))))]) (fun _ => by (simp only [go_sem, seval, reduceCtorEq, dropF_ch, dropF_cons, dropF_nil, cut, cond_true, cond_false]); first | done | rfl) (fun _ => by (simp only [go_sem, seval, reduceCtorEq, cut]); first | done | rfl) (Nat.le_of_ble_eq_true rfl) (by first | (simp only [go_sem, seval, reduceCtorEq, dropF_ch, dropF_cons, dropF_nil, cut, cond_true, cond_false, Int.natCast_zero, Int.natCast_add, Int.natCast_one, hz]; done) | rfl | (simp only [go_sem, seval, reduceCtorEq, dropF_ch, dropF_cons, dropF_nil, cut, cond_true, cond_false, Int.natCast_zero, Int.natCast_add, Int.natCast_one, hz]; rfl)) (by first | (simp only [go_sem, seval, reduceCtorEq, dropF_ch, dropF_cons, dropF_nil, cut, cond_true, cond_false, Int.natCast_zero, Int.natCast_add, Int.natCast_one, hz]; done) | rfl | (simp only [go_sem, seval, reduceCtorEq, dropF_ch, dropF_cons, dropF_nil, cut, cond_true, cond_false, Int.natCast_zero, Int.natCast_add, Int.natCast_one, hz]; rfl)) fun k hk => ?_
  unfold L0_impl_markLabels
  have hbl := bits_len 100 (markF f (L.take k))
  by_cases hlt : k < L.length
  · have d1 : (k : Int) < L.length := by omega
    have g : L[k]? = some L[k] := List.getElem?_eq_getElem hlt
    have hb := hx L[k] (List.getElem_mem hlt)
    have c1 : 0 ≤ L[k] := hb.1
    have c2 : L[k] < 100 := by omega
    have hp : (bits 100 (markF f (L.take k))).take L[k].toNat ++ [true] ++ (bits 100 (markF f (L.take k))).drop (L[k].toNat + 1) = bits 100 (markF f (L.take (k + 1))) := by
      rw [bits_put _ _ (by omega)]
      refine bits_congr fun i _ => ?_
      simp only [markF, has_take_next hlt]
      by_cases e : i = L[k].toNat
      · rw [if_pos e]
        have : ((i : Nat) : Int) = L[k] := by omega
        simp [this]
      · rw [if_neg e]
        have : ¬ ((i : Nat) : Int) = L[k] := by omega
        simp [this]
    simp (disch := omega) only [go_sem, seval, reduceCtorEq, d1, g, c1, c2]
    refine ⟨by omega, ?_⟩
    (refine Next.drop [false, false, false, false, false, true, false, false, false, true, true, true, true, true, true, true, true] (by omega) (Nat.le_of_ble_eq_true rfl) ?_ ?_ <;> first | (simp only [go_sem, seval, reduceCtorEq, dropF_ch, dropF_cons, dropF_nil, cut, cond_true, cond_false, Int.natCast_zero, Int.natCast_add, Int.natCast_one, hp]; done) | rfl | (simp only [go_sem, seval, reduceCtorEq, dropF_ch, dropF_cons, dropF_nil, cut, cond_true, cond_false, Int.natCast_zero, Int.natCast_add, Int.natCast_one, hp]; rfl) | skip)
  · have d1 : ¬ (k : Int) < L.length := by omega
    have htk : L.take k = L := List.take_of_length_le (by omega)
    simp (disch := omega) only [go_sem, seval, reduceCtorEq, d1, htk]
    (refine FnEnd.mk (Nat.le_of_ble_eq_true rfl) rfl (of_decide_eq_true rfl) ?_ ?_ <;> try simp only [go_sem, seval, reduceCtorEq])

/-! ### Some of the tensors -/
def pickT (p : Nat → Bool) (ts : List Ten) : Nat → List Ten
  | 0 => []
  | k + 1 => pickT p ts k ++ (if p k = true then [tget ts k] else [])
section
variable {p : Nat → Bool} {ts : List Ten} {k : Nat}
theorem pickT_zero : pickT p ts 0 = [] := rfl
theorem pickT_yes (h : p k = true) (hk : k < ts.length) : pickT p ts (k + 1) = pickT p ts k ++ [ts[k]] := by simp [pickT, h, tget_at hk]
theorem pickT_no (h : p k = false) : pickT p ts (k + 1) = pickT p ts k := by simp [pickT, h]
theorem pickT_len (p : Nat → Bool) (ts : List Ten) : ∀ k, (pickT p ts k).length ≤ k
  | 0 => Nat.le_refl _
  | k + 1 => by
    have := pickT_len p ts k
    simp only [pickT, List.length_append]
    split <;> simp <;> omega
theorem pickT_mem {t : Ten} : ∀ {k}, t ∈ pickT p ts k ↔ ∃ i, i < k ∧ p i = true ∧ t = tget ts i
  | 0 => by simp [pickT]
  | k + 1 => by
    rw [pickT, List.mem_append, pickT_mem]
    constructor
    · rintro (⟨i, h1, h2, h3⟩ | h)
      · exact ⟨i, by omega, h2, h3⟩
      · split at h
        · rename_i hp
          simp only [List.mem_singleton] at h
          exact ⟨k, by omega, hp, h⟩
        · cases h
    · rintro ⟨i, h1, h2, h3⟩
      by_cases e : i = k
      · subst e
        rw [if_pos h2]
        exact .inr (by simp [h3])
      · exact .inl ⟨i, by omega, h2, h3⟩
theorem pickT_sub (hk : k ≤ ts.length) {t : Ten} (h : t ∈ pickT p ts k) : t ∈ ts := by
  obtain ⟨i, h1, h2, rfl⟩ := pickT_mem.1 h
  rw [tget_at (by omega)]
  exact List.getElem_mem _
end
def anyL (ts : List Ten) (x : Int) : Bool := ts.any fun t => has t.labels x
theorem anyL_dim {ts : List Ten} (h : axOks ts) (x : Int) : anyL ts x = (dimN ts x != 0) := by
  have key : anyL ts x = true ↔ dimN ts x ≠ 0 := by
    unfold anyL
    simp only [List.any_eq_true, has_true]
    constructor
    · rintro ⟨t, ht, hx⟩
      -- the first one
      have : ∃ k, ∃ hk : k < ts.length, x ∈ ts[k].labels ∧ ∀ t ∈ ts.take k, x ∉ t.labels := by
        clear h
        induction ts with
        | nil => cases ht
        | cons u l ih =>
          by_cases hu : x ∈ u.labels
          · exact ⟨0, by simp, hu, by simp⟩
          · rcases List.mem_cons.1 ht with e | ht
            · subst e; exact absurd hx hu
            · obtain ⟨k, hk, h1, h2⟩ := ih ht
              refine ⟨k + 1, by simpa using hk, by simpa using h1, fun v hv => ?_⟩
              simp only [List.take_succ_cons, List.mem_cons] at hv
              rcases hv with rfl | hv
              · exact hu
              · exact h2 v hv
      obtain ⟨k, hk, h1, h2⟩ := this
      rw [dimN_first h hk h2 h1]
      have := dimAt_bd (h ts[k] (List.getElem_mem hk)) h1
      omega
    · intro h0
      false_or_by_contra
      rename_i hc
      exact h0 (dimN_none fun t ht hx => hc ⟨t, ht, hx⟩)
  cases h1 : anyL ts x
  · have : dimN ts x = 0 := by
      false_or_by_contra
      rename_i hc
      rw [key.2 hc] at h1
      cases h1
    simp [this]
  · have := key.1 h1
    simp [this]
def selB (s : Int) (b : Bool) (k : Nat) : Bool := (IntKind.i64.wrap (BitVec.ofInt 64 (s.fdiv (2 ^ k)) &&& 1#64).toNat == 1) == b
noncomputable def setP (N : Net) (s : Int) (i : Nat) : Bool := anyL (pickT (selB s true) N.ts N.ts.length) i && (has N.os i || anyL (pickT (selB s false) N.ts N.ts.length) i)
theorem ax_labels {t : Ten} (h : axOk t.labels t.dims) : ∀ x ∈ t.labels, 0 ≤ x ∧ x ≤ 99 := fun x hx => by
  obtain ⟨k, hk, rfl⟩ := List.mem_iff_getElem.1 hx
  have := h.2.2 k hk
  unfold axAt at this
  rw [getD_of hk] at this
  omega
theorem net_open {N : Net} (h : netOk N = true) : ∀ x ∈ N.os, 0 ≤ x ∧ x ≤ 99 := fun x hx => by
  have h5 := (netOk_iff.1 h).2.2.2.2
  obtain ⟨k, hk, rfl⟩ := List.mem_iff_getElem.1 hx
  false_or_by_contra
  rename_i hc
  exact h5 (tsize_open k hk (fun e => hc ⟨e.1, e.2.1⟩) (netOk_ax h))
def anyN (ts : List Ten) (j : Nat) : Bool := anyL ts j
def keptN (os : List Int) (ts : List Ten) (j : Nat) : Bool := has os j || anyL ts j
theorem any_next {p : Nat → Bool} {ts : List Ten} {k : Nat} (hk : k < ts.length) (h : p k = true) : bits 100 (markF (anyN (pickT p ts k)) ts[k].labels) = bits 100 (anyN (pickT p ts (k + 1))) :=
  bits_congr fun j _ => by simp [anyN, markF, anyL, pickT_yes h hk]
theorem kept_next {os : List Int} {p : Nat → Bool} {ts : List Ten} {k : Nat} (hk : k < ts.length) (h : p k = true) : bits 100 (markF (keptN os (pickT p ts k)) ts[k].labels) = bits 100 (keptN os (pickT p ts (k + 1))) :=
  bits_congr fun j _ => by simp [keptN, markF, anyL, pickT_yes h hk, Bool.or_assoc]
theorem rawSetLabels_d {N : Net} {s : Int} (h : NSz 1048576 N) (hok : netOk N = true) (hs : I64 s) :
    Does Try.prog 147 [netA N, .d (.int s)] [] (.own 0 0 (pickTo (setP N s) 100).length) [some ⟨1, true, iv (pickTo (setP N s) 100)⟩] := by
  have hax := netOk_ax hok
  have hz : bits 100 (markF (fun _ => false) N.os) = bits 100 (keptN N.os []) := bits_congr fun i _ => by simp [markF, keptN, anyL]
  have hz2 : bits 100 (anyN []) = bits 100 fun _ => false := bits_congr fun i _ => rfl
  have l12 := (netOk_iff.1 hok).2.1
  (refine spec_of (by kernel_rfl) Try.func147 k_impl_rawSetLabels (fnOk (Nat.le_of_ble_eq_true rfl) ?_); unfold C_impl_rawSetLabels)
  (simp only [Nat.reduceSub, List.length_cons, List.length_nil, Nat.reduceAdd, ch_init1, ch_init2, ch_init3, ch_init4, ch_init5, ch_init6, ch_init7, ch_init8]; try simp only [ch_rep]); (simp only [go_sem, seval, reduceCtorEq, List.replicate])
  (refine ti_callw [2] false (markLabels_d (f := fun _ => false) (L := N.os) h.o.up.len (net_open hok)) (of_decide_eq_true rfl) ?_ ?_ ?_ ?_ (of_decide_eq_true rfl) ?_; (focus (simp only [go_sem, seval, reduceCtorEq]; done)); (focus (simp only [go_sem, seval, reduceCtorEq]; done)); (focus (simp only [go_sem, seval, reduceCtorEq]; done)); (focus (simp only [go_sem, seval, reduceCtorEq]; done)))
  simp only [go_sem, seval, reduceCtorEq, hz]
  refine wpN_lp (N.ts.length) [false, false, false, false, false, false, false, true, true, false, false, false, false, false, false, false, false, false, true, true, true, true, true, true, true, true, true, true, true, true, true, true, true, true, false, false, false, false, false, false, false, false, false, false, false, false, false, false, false, false, false] (fun k => [(17, .d (.int k))]) (fun k => [(1, bv (bits 100 (anyN (pickT (selB s true) N.ts k)))), (2, bv (bits 100 (keptN N.os (pickT (selB s false) N.ts k))))]) (fun _ => by (simp only [go_sem, seval, reduceCtorEq, dropF_ch, dropF_cons, dropF_nil, cut, cond_true, cond_false]); first | done | rfl) (fun _ => by (simp only [go_sem, seval, reduceCtorEq, cut]); first | done | rfl) (Nat.le_of_ble_eq_true rfl) (by first | (simp only [go_sem, seval, reduceCtorEq, dropF_ch, dropF_cons, dropF_nil, cut, cond_true, cond_false, Int.natCast_zero, Int.natCast_add, Int.natCast_one, pickT_zero, hz2]; done) | rfl | (simp only [go_sem, seval, reduceCtorEq, dropF_ch, dropF_cons, dropF_nil, cut, cond_true, cond_false, Int.natCast_zero, Int.natCast_add, Int.natCast_one, pickT_zero, hz2]; rfl)) (by first | (simp only [go_sem, seval, reduceCtorEq, dropF_ch, dropF_cons, dropF_nil, cut, cond_true, cond_false, Int.natCast_zero, Int.natCast_add, Int.natCast_one, pickT_zero, hz2]; done) | rfl | (simp only [go_sem, seval, reduceCtorEq, dropF_ch, dropF_cons, dropF_nil, cut, cond_true, cond_false, Int.natCast_zero, Int.natCast_add, Int.natCast_one, pickT_zero, hz2]; rfl)) fun k hk => ?_
  unfold L1_impl_rawSetLabels
  by_cases hlt : k < N.ts.length
  · have d1 : (k : Int) < N.ts.length := by omega
    have g3 := tcs_cut (List.getElem?_eq_getElem hlt)
    have hst := h.t N.ts[k] (List.getElem_mem hlt)
    have hlab := ax_labels (hax N.ts[k] (List.getElem_mem hlt))
    have hmin : min k 64 = k := by omega
    simp (disch := omega) only [go_sem, seval, reduceCtorEq, d1, g3, hmin]
    (repeat (refine And.intro (by omega) ?_))
    cases hb : (IntKind.i64.wrap (BitVec.ofInt 64 (s.fdiv (2 ^ k)) &&& 1#64).toNat == 1)
    · have s1 : selB s true k = false := by rw [selB, hb]; rfl
      have s2 : selB s false k = true := by rw [selB, hb]; rfl
      simp (disch := omega) only [go_sem, seval, reduceCtorEq, hb]
      (refine ti_callw [2] false (markLabels_d (f := keptN N.os (pickT (selB s false) N.ts k)) (L := N.ts[k].labels) hst.l.up.len hlab) (of_decide_eq_true rfl) ?_ ?_ ?_ ?_ (of_decide_eq_true rfl) ?_; (focus (simp only [go_sem, seval, reduceCtorEq]; done)); (focus (simp only [go_sem, seval, reduceCtorEq]; done)); (focus (simp only [go_sem, seval, reduceCtorEq]; done)); (focus (simp only [go_sem, seval, reduceCtorEq]; done)))
      simp (disch := omega) only [go_sem, seval, reduceCtorEq]
      (refine Next.drop [false, false, false, false, false, false, false, true, true, false, false, false, false, false, false, false, false, false, true, true, true, true, true, true, true, true, true, true, true, true, true, true, true, true, false, false, false, false, false, false, false, false, false, false, false, false, false, false, false, false, false] (by omega) (Nat.le_of_ble_eq_true rfl) ?_ ?_ <;> first | (simp only [go_sem, seval, reduceCtorEq, dropF_ch, dropF_cons, dropF_nil, cut, cond_true, cond_false, Int.natCast_zero, Int.natCast_add, Int.natCast_one, pickT_no s1, kept_next hlt s2]; done) | rfl | (simp only [go_sem, seval, reduceCtorEq, dropF_ch, dropF_cons, dropF_nil, cut, cond_true, cond_false, Int.natCast_zero, Int.natCast_add, Int.natCast_one, pickT_no s1, kept_next hlt s2]; rfl) | skip)
    · have s1 : selB s true k = true := by rw [selB, hb]; rfl
      have s2 : selB s false k = false := by rw [selB, hb]; rfl
      simp (disch := omega) only [go_sem, seval, reduceCtorEq, hb]
      (refine ti_callw [1] false (markLabels_d (f := anyN (pickT (selB s true) N.ts k)) (L := N.ts[k].labels) hst.l.up.len hlab) (of_decide_eq_true rfl) ?_ ?_ ?_ ?_ (of_decide_eq_true rfl) ?_; (focus (simp only [go_sem, seval, reduceCtorEq]; done)); (focus (simp only [go_sem, seval, reduceCtorEq]; done)); (focus (simp only [go_sem, seval, reduceCtorEq]; done)); (focus (simp only [go_sem, seval, reduceCtorEq]; done)))
      simp (disch := omega) only [go_sem, seval, reduceCtorEq]
      (refine Next.drop [false, false, false, false, false, false, false, true, true, false, false, false, false, false, false, false, false, false, true, true, true, true, true, true, true, true, true, true, true, true, true, true, true, true, false, false, false, false, false, false, false, false, false, false, false, false, false, false, false, false, false] (by omega) (Nat.le_of_ble_eq_true rfl) ?_ ?_ <;> first | (simp only [go_sem, seval, reduceCtorEq, dropF_ch, dropF_cons, dropF_nil, cut, cond_true, cond_false, Int.natCast_zero, Int.natCast_add, Int.natCast_one, pickT_no s2, any_next hlt s1]; done) | rfl | (simp only [go_sem, seval, reduceCtorEq, dropF_ch, dropF_cons, dropF_nil, cut, cond_true, cond_false, Int.natCast_zero, Int.natCast_add, Int.natCast_one, pickT_no s2, any_next hlt s1]; rfl) | skip)
  · have d1 : ¬ (k : Int) < N.ts.length := by omega
    obtain rfl : k = N.ts.length := by omega
    simp (disch := omega) only [go_sem, seval, reduceCtorEq, d1]
    (refine wpN_lwk (Wk.nilE 9 1 _ _ rfl) ?_; simp only [go_sem, seval, reduceCtorEq])
    refine wpN_lp (100) [false, false, false, false, false, false, false, false, false, false, true, false, false, false, false, false, false, false, false, false, false, false, false, false, false, false, false, false, false, false, false, false, false, false, false, true, true, true, true, true, true, true, true, true, true, true, true, true, true, true, false] (fun q => [(9, .own 3 0 (pickTo (setP N s) q).length), (34, .d (.int q))]) (fun q => [(3, iv (pickTo (setP N s) q))]) (fun _ => by (simp only [go_sem, seval, reduceCtorEq, dropF_ch, dropF_cons, dropF_nil, cut, cond_true, cond_false]); first | done | rfl) (fun _ => by (simp only [go_sem, seval, reduceCtorEq, cut]); first | done | rfl) (Nat.le_of_ble_eq_true rfl) (by first | (simp only [go_sem, seval, reduceCtorEq, dropF_ch, dropF_cons, dropF_nil, cut, cond_true, cond_false, Int.natCast_zero, Int.natCast_add, Int.natCast_one, pickTo_zero, iv_nil]; done) | rfl | (simp only [go_sem, seval, reduceCtorEq, dropF_ch, dropF_cons, dropF_nil, cut, cond_true, cond_false, Int.natCast_zero, Int.natCast_add, Int.natCast_one, pickTo_zero, iv_nil]; rfl)) (by first | (simp only [go_sem, seval, reduceCtorEq, dropF_ch, dropF_cons, dropF_nil, cut, cond_true, cond_false, Int.natCast_zero, Int.natCast_add, Int.natCast_one, pickTo_zero, iv_nil]; done) | rfl | (simp only [go_sem, seval, reduceCtorEq, dropF_ch, dropF_cons, dropF_nil, cut, cond_true, cond_false, Int.natCast_zero, Int.natCast_add, Int.natCast_one, pickTo_zero, iv_nil]; rfl)) fun q hq => ?_
    unfold L0_impl_rawSetLabels
    have hpl := pickTo_len (setP N s) q
    by_cases hq : q < 100
    · have d2 : (q : Int) < 100 := by omega
      have g1 := bits_get (anyN (pickT (selB s true) N.ts N.ts.length)) hq
      have g2 := bits_get (keptN N.os (pickT (selB s false) N.ts N.ts.length)) hq
      have hp : setP N s q = (anyN (pickT (selB s true) N.ts N.ts.length) q && keptN N.os (pickT (selB s false) N.ts N.ts.length) q) := rfl
      cases h1 : anyN (pickT (selB s true) N.ts N.ts.length) q
      · have e : setP N s q = false := by rw [hp, h1]; rfl
        simp (disch := omega) only [go_sem, seval, reduceCtorEq, d2, g1, h1]
        (repeat (refine And.intro (by omega) ?_))
        (refine Next.drop [false, false, false, false, false, false, false, false, false, false, true, false, false, false, false, false, false, false, false, false, false, false, false, false, false, false, false, false, false, false, false, false, false, false, false, true, true, true, true, true, true, true, true, true, true, true, true, true, true, true, false] (by omega) (Nat.le_of_ble_eq_true rfl) ?_ ?_ <;> first | (simp only [go_sem, seval, reduceCtorEq, dropF_ch, dropF_cons, dropF_nil, cut, cond_true, cond_false, Int.natCast_zero, Int.natCast_add, Int.natCast_one, pickTo_no e]; done) | rfl | (simp only [go_sem, seval, reduceCtorEq, dropF_ch, dropF_cons, dropF_nil, cut, cond_true, cond_false, Int.natCast_zero, Int.natCast_add, Int.natCast_one, pickTo_no e]; rfl) | skip)
      · cases h2 : keptN N.os (pickT (selB s false) N.ts N.ts.length) q
        · have e : setP N s q = false := by rw [hp, h1, h2]; rfl
          simp (disch := omega) only [go_sem, seval, reduceCtorEq, d2, g1, h1, g2, h2]
          (repeat (refine And.intro (by omega) ?_))
          (refine Next.drop [false, false, false, false, false, false, false, false, false, false, true, false, false, false, false, false, false, false, false, false, false, false, false, false, false, false, false, false, false, false, false, false, false, false, false, true, true, true, true, true, true, true, true, true, true, true, true, true, true, true, false] (by omega) (Nat.le_of_ble_eq_true rfl) ?_ ?_ <;> first | (simp only [go_sem, seval, reduceCtorEq, dropF_ch, dropF_cons, dropF_nil, cut, cond_true, cond_false, Int.natCast_zero, Int.natCast_add, Int.natCast_one, pickTo_no e]; done) | rfl | (simp only [go_sem, seval, reduceCtorEq, dropF_ch, dropF_cons, dropF_nil, cut, cond_true, cond_false, Int.natCast_zero, Int.natCast_add, Int.natCast_one, pickTo_no e]; rfl) | skip)
        · have e : setP N s q = true := by rw [hp, h1, h2]; rfl
          simp (disch := omega) only [go_sem, seval, reduceCtorEq, d2, g1, h1, g2, h2]
          (repeat (refine And.intro (by omega) ?_))
          (refine Next.drop [false, false, false, false, false, false, false, false, false, false, true, false, false, false, false, false, false, false, false, false, false, false, false, false, false, false, false, false, false, false, false, false, false, false, false, true, true, true, true, true, true, true, true, true, true, true, true, true, true, true, false] (by omega) (Nat.le_of_ble_eq_true rfl) ?_ ?_ <;> first | (simp only [go_sem, seval, reduceCtorEq, dropF_ch, dropF_cons, dropF_nil, cut, cond_true, cond_false, Int.natCast_zero, Int.natCast_add, Int.natCast_one, pickTo_yes e, List.length_append]; done) | rfl | (simp only [go_sem, seval, reduceCtorEq, dropF_ch, dropF_cons, dropF_nil, cut, cond_true, cond_false, Int.natCast_zero, Int.natCast_add, Int.natCast_one, pickTo_yes e, List.length_append]; rfl) | skip)
    · have d2 : ¬ (q : Int) < 100 := by omega
      obtain rfl : q = 100 := by omega
      simp (disch := omega) only [go_sem, seval, reduceCtorEq, d2]
      (refine FnEnd.mk (Nat.le_of_ble_eq_true rfl) rfl (of_decide_eq_true rfl) ?_ ?_ <;> try simp only [go_sem, seval, reduceCtorEq])

/-! ### Lists of tensors that nobody writes -/
def tcD (ts : List Ten) : List AV := (tcs ts).map .d
section
variable {ts : List Ten}
theorem tcD_len : (tcD ts).length = ts.length * 3 := by simp [tcD, tcs_len]
theorem tcD_nil : tcD [] = [] := nr rfl
theorem tcD_snoc (t : Ten) : tcD ts ++ [.d (ints t.labels), .d (ints t.dims), .d (ints t.data)] = tcD (ts ++ [t]) := by simp [tcD, tcs_app, tcs]
theorem rnL_dmap (ρ : Nat → Option Nat) : ∀ l : List D, rnL ρ (l.map .d) = l.map .d
  | [] => rfl
  | x :: l => by rw [List.map_cons, rnL, rnL_dmap ρ l]; rfl
theorem cellsD_dmap : ∀ l : List D, cellsD (l.map .d) = some l
  | [] => rfl
  | x :: l => by rw [List.map_cons, cellsD, cellsD_dmap l]; rfl
theorem rnL_tcD (ρ : Nat → Option Nat) : rnL ρ (tcD ts) = tcD ts := rnL_dmap ρ _
theorem cellsD_tcD : cellsD (tcD ts) = some (tcs ts) := cellsD_dmap _
theorem tcD_all : (tcD ts).take (ts.length * 3) = tcD ts := List.take_of_length_le (by rw [tcD_len]; exact Nat.le_refl _)
end
attribute [go_sem] tcD_len rnL_tcD cellsD_tcD tcD_all
theorem filter_pickTo (p q : Nat → Bool) (n : Nat) : (pickTo p n).filter (fun x => q x.toNat) = pickTo (fun i => p i && q i) n := by
  unfold pickTo
  rw [List.filter_map, List.filter_filter]
  congr 1
  exact List.filter_congr fun i _ => by simp [Bool.and_comm]
theorem setP_eq {N : Net} {s : Int} (h : axOks N.ts) (i : Nat) : (labP (pickT (selB s true) N.ts N.ts.length) i && (has N.os i || decide (dimN (pickT (selB s false) N.ts N.ts.length) i > 0))) = setP N s i := by
  have a1 : axOks (pickT (selB s true) N.ts N.ts.length) := fun t ht => h t (pickT_sub (Nat.le_refl _) ht)
  have a2 : axOks (pickT (selB s false) N.ts N.ts.length) := fun t ht => h t (pickT_sub (Nat.le_refl _) ht)
  have hb := dimN_bd a2 i
  rw [setP, anyL_dim a1, anyL_dim a2, labP]
  congr 2
  rcases hb with e | e
  · simp [e]
  · have e1 : dimN (pickT (selB s false) N.ts N.ts.length) i > 0 := by omega
    have e2 : dimN (pickT (selB s false) N.ts N.ts.length) i ≠ 0 := by omega
    simp [e1, e2]
theorem l20Labels_d {N : Net} {s : Int} (h : NSz 1048576 N) (hok : netOk N = true) (hs : I64 s) :
    Does Try.prog 177 [netA N, .d (.int s)] [] (.own 0 0 (pickTo (setP N s) 100).length) [some ⟨1, true, iv (pickTo (setP N s) 100)⟩] := by
  have hax := netOk_ax hok
  have l12 := (netOk_iff.1 hok).2.1
  (refine spec_of (by kernel_rfl) Try.func177 k_spec_l20Labels (fnOk (Nat.le_of_ble_eq_true rfl) ?_); unfold C_spec_l20Labels)
  (simp only [Nat.reduceSub, List.length_cons, List.length_nil, Nat.reduceAdd, ch_init1, ch_init2, ch_init3, ch_init4, ch_init5, ch_init6, ch_init7, ch_init8]; try simp only [ch_rep]); (simp only [go_sem, seval, reduceCtorEq, List.replicate])
  refine wpN_lp (N.ts.length) [false, false, false, false, false, false, false, true, true, false, false, false, true, true, false, false, false, false, true, true, true, true, true, true, true, true, true, true, true, true, true, true, true, true, true, true, false, false, false, false, false, false, false, false, false, false, false, false, false, false, false, false, false, false, false, false, false, false, false, false, false] (fun k => [(17, .d (.int k)), (5, .own 1 0 (pickT (selB s true) N.ts k).length), (6, .own 2 0 (pickT (selB s false) N.ts k).length)]) (fun k => [(1, tcD (pickT (selB s true) N.ts k)), (2, tcD (pickT (selB s false) N.ts k))]) (fun _ => by (simp only [go_sem, seval, reduceCtorEq, dropF_ch, dropF_cons, dropF_nil, cut, cond_true, cond_false]); first | done | rfl) (fun _ => by (simp only [go_sem, seval, reduceCtorEq, cut]); first | done | rfl) (Nat.le_of_ble_eq_true rfl) (by first | (simp only [go_sem, seval, reduceCtorEq, dropF_ch, dropF_cons, dropF_nil, cut, cond_true, cond_false, Int.natCast_zero, Int.natCast_add, Int.natCast_one, pickT_zero, tcD_nil]; done) | rfl | (simp only [go_sem, seval, reduceCtorEq, dropF_ch, dropF_cons, dropF_nil, cut, cond_true, cond_false, Int.natCast_zero, Int.natCast_add, Int.natCast_one, pickT_zero, tcD_nil]; rfl)) (by first | (simp only [go_sem, seval, reduceCtorEq, dropF_ch, dropF_cons, dropF_nil, cut, cond_true, cond_false, Int.natCast_zero, Int.natCast_add, Int.natCast_one, pickT_zero, tcD_nil]; done) | rfl | (simp only [go_sem, seval, reduceCtorEq, dropF_ch, dropF_cons, dropF_nil, cut, cond_true, cond_false, Int.natCast_zero, Int.natCast_add, Int.natCast_one, pickT_zero, tcD_nil]; rfl)) fun k hk => ?_
  unfold L1_spec_l20Labels
  have hpl1 := pickT_len (selB s true) N.ts k
  have hpl2 := pickT_len (selB s false) N.ts k
  by_cases hlt : k < N.ts.length
  · have d1 : (k : Int) < N.ts.length := by omega
    have g3 := tcs_cut (List.getElem?_eq_getElem hlt)
    have hst := h.t N.ts[k] (List.getElem_mem hlt)
    have hmin : min k 64 = k := by omega
    simp (disch := omega) only [go_sem, seval, reduceCtorEq, d1, g3, hmin]
    (repeat (refine And.intro (by omega) ?_))
    cases hb : (IntKind.i64.wrap (BitVec.ofInt 64 (s.fdiv (2 ^ k)) &&& 1#64).toNat == 1)
    · have s1 : selB s true k = false := by rw [selB, hb]; rfl
      have s2 : selB s false k = true := by rw [selB, hb]; rfl
      simp (disch := omega) only [go_sem, seval, reduceCtorEq, hb]
      (repeat (refine And.intro (by omega) ?_))
      (refine Next.drop [false, false, false, false, false, false, false, true, true, false, false, false, true, true, false, false, false, false, true, true, true, true, true, true, true, true, true, true, true, true, true, true, true, true, true, true, false, false, false, false, false, false, false, false, false, false, false, false, false, false, false, false, false, false, false, false, false, false, false, false, false] (by omega) (Nat.le_of_ble_eq_true rfl) ?_ ?_ <;> first | (simp only [go_sem, seval, reduceCtorEq, dropF_ch, dropF_cons, dropF_nil, cut, cond_true, cond_false, Int.natCast_zero, Int.natCast_add, Int.natCast_one, pickT_no s1, pickT_yes s2 hlt, ← tcD_snoc, List.length_append]; done) | rfl | (simp only [go_sem, seval, reduceCtorEq, dropF_ch, dropF_cons, dropF_nil, cut, cond_true, cond_false, Int.natCast_zero, Int.natCast_add, Int.natCast_one, pickT_no s1, pickT_yes s2 hlt, ← tcD_snoc, List.length_append]; rfl) | skip)
    · have s1 : selB s true k = true := by rw [selB, hb]; rfl
      have s2 : selB s false k = false := by rw [selB, hb]; rfl
      simp (disch := omega) only [go_sem, seval, reduceCtorEq, hb]
      (repeat (refine And.intro (by omega) ?_))
      (refine Next.drop [false, false, false, false, false, false, false, true, true, false, false, false, true, true, false, false, false, false, true, true, true, true, true, true, true, true, true, true, true, true, true, true, true, true, true, true, false, false, false, false, false, false, false, false, false, false, false, false, false, false, false, false, false, false, false, false, false, false, false, false, false] (by omega) (Nat.le_of_ble_eq_true rfl) ?_ ?_ <;> first | (simp only [go_sem, seval, reduceCtorEq, dropF_ch, dropF_cons, dropF_nil, cut, cond_true, cond_false, Int.natCast_zero, Int.natCast_add, Int.natCast_one, pickT_yes s1 hlt, pickT_no s2, ← tcD_snoc, List.length_append]; done) | rfl | (simp only [go_sem, seval, reduceCtorEq, dropF_ch, dropF_cons, dropF_nil, cut, cond_true, cond_false, Int.natCast_zero, Int.natCast_add, Int.natCast_one, pickT_yes s1 hlt, pickT_no s2, ← tcD_snoc, List.length_append]; rfl) | skip)
  · have d1 : ¬ (k : Int) < N.ts.length := by omega
    obtain rfl : k = N.ts.length := by omega
    simp (disch := omega) only [go_sem, seval, reduceCtorEq, d1]
    have a1 : axOks (pickT (selB s true) N.ts N.ts.length) := fun t ht => hax t (pickT_sub (Nat.le_refl _) ht)
    have a2 : axOks (pickT (selB s false) N.ts N.ts.length) := fun t ht => hax t (pickT_sub (Nat.le_refl _) ht)
    have z1 : ∀ t ∈ pickT (selB s true) N.ts N.ts.length, TSz 1048576 t := fun t ht => h.t t (pickT_sub (Nat.le_refl _) ht)
    have z2 : ∀ t ∈ pickT (selB s false) N.ts N.ts.length, TSz 1048576 t := fun t ht => h.t t (pickT_sub (Nat.le_refl _) ht)
    have hfil : ∀ l : List Int, l = pickTo (labP (pickT (selB s true) N.ts N.ts.length)) 100 → l.filter (fun x => has N.os x || decide (dimN (pickT (selB s false) N.ts N.ts.length) x > 0)) = pickTo (setP N s) 100 := fun l e => by
      subst e
      have e1 := filter_pickTo (labP (pickT (selB s true) N.ts N.ts.length)) (fun i => has N.os i || decide (dimN (pickT (selB s false) N.ts N.ts.length) i > 0)) 100
      rw [pickTo_congr fun i _ => setP_eq hax i] at e1
      rw [← e1]
      refine List.filter_congr fun x hx => ?_
      obtain ⟨i, _, _, rfl⟩ := pickTo_mem hx
      simp
    (refine ti_call (l12Labels_d (ts := pickT (selB s true) N.ts N.ts.length) (by omega) z1 a1) ?_ ?_ ?_; (focus (simp only [go_sem, seval, reduceCtorEq]; done)); (first | rfl | (focus (simp only [go_sem]; done))))
    simp (disch := omega) only [go_sem, seval, reduceCtorEq]
    have hLl := pickTo_len (labP (pickT (selB s true) N.ts N.ts.length)) 100
    generalize hLe : pickTo (labP (pickT (selB s true) N.ts N.ts.length)) 100 = L at *
    have hfl := hfil L rfl
    refine wpN_lp (L.length) [false, false, false, false, false, false, false, false, false, false, false, true, false, false, false, false, false, false, false, false, false, false, false, false, false, false, false, false, false, false, false, false, false, false, false, false, true, false, false, false, false, true, true, true, true, true, true, true, true, true, true, true, true, true, true, true, true, true, true, true, false] (fun q => [(9, .own 3 0 ((L.take q).filter (fun x => has N.os x || decide (dimN (pickT (selB s false) N.ts N.ts.length) x > 0))).length), (40, .d (.int q))]) (fun q => [(3, iv ((L.take q).filter (fun x => has N.os x || decide (dimN (pickT (selB s false) N.ts N.ts.length) x > 0))))]) (fun _ => by (simp only [go_sem, seval, reduceCtorEq, dropF_ch, dropF_cons, dropF_nil, cut, cond_true, cond_false]); first | done | rfl) (fun _ => by (simp only [go_sem, seval, reduceCtorEq, cut]); first | done | rfl) (Nat.le_of_ble_eq_true rfl) (by first | (simp only [go_sem, seval, reduceCtorEq, dropF_ch, dropF_cons, dropF_nil, cut, cond_true, cond_false, Int.natCast_zero, Int.natCast_add, Int.natCast_one, List.take_zero, List.filter_nil, iv_nil]; done) | rfl | (simp only [go_sem, seval, reduceCtorEq, dropF_ch, dropF_cons, dropF_nil, cut, cond_true, cond_false, Int.natCast_zero, Int.natCast_add, Int.natCast_one, List.take_zero, List.filter_nil, iv_nil]; rfl)) (by first | (simp only [go_sem, seval, reduceCtorEq, dropF_ch, dropF_cons, dropF_nil, cut, cond_true, cond_false, Int.natCast_zero, Int.natCast_add, Int.natCast_one, List.take_zero, List.filter_nil, iv_nil]; done) | rfl | (simp only [go_sem, seval, reduceCtorEq, dropF_ch, dropF_cons, dropF_nil, cut, cond_true, cond_false, Int.natCast_zero, Int.natCast_add, Int.natCast_one, List.take_zero, List.filter_nil, iv_nil]; rfl)) fun q hq => ?_
    unfold L0_spec_l20Labels
    have hff := filter_len L q (fun x => has N.os x || decide (dimN (pickT (selB s false) N.ts N.ts.length) x > 0))
    have hol := h.o.len
    have hp2 := pickT_len (selB s false) N.ts N.ts.length
    by_cases hq : q < L.length
    · have d2 : (q : Int) < L.length := by omega
      have g : L[q]? = some L[q] := List.getElem?_eq_getElem hq
      simp (disch := omega) only [go_sem, seval, reduceCtorEq, d2, g]
      (refine ti_call (l05Find_d (xs := N.os) (x := L[q]) h.o.up.len) ?_ ?_ ?_; (focus (simp only [go_sem, seval, reduceCtorEq]; done)); (first | rfl | (focus (simp only [go_sem]; done))))
      by_cases hm : L[q] ∈ N.os
      · have c : place N.os L[q] ≥ 0 := by
          have h0 : ¬ place N.os L[q] < 0 := fun e => place_neg.1 e hm
          omega
        have e := filter_yes (p := fun x => has N.os x || decide (dimN (pickT (selB s false) N.ts N.ts.length) x > 0)) hq (by simp only [has_true.2 hm, Bool.true_or])
        simp (disch := omega) only [go_sem, seval, reduceCtorEq, c]
        (repeat (refine And.intro (by omega) ?_))
        (refine Next.drop [false, false, false, false, false, false, false, false, false, false, false, true, false, false, false, false, false, false, false, false, false, false, false, false, false, false, false, false, false, false, false, false, false, false, false, false, true, false, false, false, false, true, true, true, true, true, true, true, true, true, true, true, true, true, true, true, true, true, true, true, false] (by omega) (Nat.le_of_ble_eq_true rfl) ?_ ?_ <;> first | (simp only [go_sem, seval, reduceCtorEq, dropF_ch, dropF_cons, dropF_nil, cut, cond_true, cond_false, Int.natCast_zero, Int.natCast_add, Int.natCast_one, e, List.length_append]; done) | rfl | (simp only [go_sem, seval, reduceCtorEq, dropF_ch, dropF_cons, dropF_nil, cut, cond_true, cond_false, Int.natCast_zero, Int.natCast_add, Int.natCast_one, e, List.length_append]; rfl) | skip)
      · have c : ¬ place N.os L[q] ≥ 0 := by have := place_neg.2 hm; omega
        simp (disch := omega) only [go_sem, seval, reduceCtorEq, c]
        (refine ti_call (l12Dim_d (ts := pickT (selB s false) N.ts N.ts.length) (x := L[q]) (by omega) z2 a2) ?_ ?_ ?_; (focus (simp only [go_sem, seval, reduceCtorEq]; done)); (first | rfl | (focus (simp only [go_sem]; done))))
        by_cases hd : dimN (pickT (selB s false) N.ts N.ts.length) L[q] > 0
        · have e := filter_yes (p := fun x => has N.os x || decide (dimN (pickT (selB s false) N.ts N.ts.length) x > 0)) hq (by simp only [decide_eq_true hd, Bool.or_true])
          simp (disch := omega) only [go_sem, seval, reduceCtorEq, hd]
          (repeat (refine And.intro (by omega) ?_))
          (refine Next.drop [false, false, false, false, false, false, false, false, false, false, false, true, false, false, false, false, false, false, false, false, false, false, false, false, false, false, false, false, false, false, false, false, false, false, false, false, true, false, false, false, false, true, true, true, true, true, true, true, true, true, true, true, true, true, true, true, true, true, true, true, false] (by omega) (Nat.le_of_ble_eq_true rfl) ?_ ?_ <;> first | (simp only [go_sem, seval, reduceCtorEq, dropF_ch, dropF_cons, dropF_nil, cut, cond_true, cond_false, Int.natCast_zero, Int.natCast_add, Int.natCast_one, e, List.length_append]; done) | rfl | (simp only [go_sem, seval, reduceCtorEq, dropF_ch, dropF_cons, dropF_nil, cut, cond_true, cond_false, Int.natCast_zero, Int.natCast_add, Int.natCast_one, e, List.length_append]; rfl) | skip)
        · have e := filter_no (p := fun x => has N.os x || decide (dimN (pickT (selB s false) N.ts N.ts.length) x > 0)) hq (by simp only [has_false.2 hm, decide_eq_false hd, Bool.or_false])
          simp (disch := omega) only [go_sem, seval, reduceCtorEq, hd]
          (repeat (refine And.intro (by omega) ?_))
          (refine Next.drop [false, false, false, false, false, false, false, false, false, false, false, true, false, false, false, false, false, false, false, false, false, false, false, false, false, false, false, false, false, false, false, false, false, false, false, false, true, false, false, false, false, true, true, true, true, true, true, true, true, true, true, true, true, true, true, true, true, true, true, true, false] (by omega) (Nat.le_of_ble_eq_true rfl) ?_ ?_ <;> first | (simp only [go_sem, seval, reduceCtorEq, dropF_ch, dropF_cons, dropF_nil, cut, cond_true, cond_false, Int.natCast_zero, Int.natCast_add, Int.natCast_one, e]; done) | rfl | (simp only [go_sem, seval, reduceCtorEq, dropF_ch, dropF_cons, dropF_nil, cut, cond_true, cond_false, Int.natCast_zero, Int.natCast_add, Int.natCast_one, e]; rfl) | skip)
    · have d2 : ¬ (q : Int) < L.length := by omega
      have htk : L.take q = L := List.take_of_length_le (by omega)
      simp (disch := omega) only [go_sem, seval, reduceCtorEq, d2, htk, hfl]
      (refine FnEnd.mk (Nat.le_of_ble_eq_true rfl) rfl (of_decide_eq_true rfl) ?_ ?_ <;> try simp only [go_sem, seval, reduceCtorEq])

end Go.Proofs.Ytcgnehacihjnkaa
