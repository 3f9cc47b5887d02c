/-
  Contracts: permuted tensors. No condition.
-/
import Derived.Test.YtmgifmgdfldheaaConI
namespace Go.Proofs.Ytmgifmgdfldheaa
open Go.RowKit Go.Lift Plain
set_option linter.unusedSimpArgs false
set_option linter.unusedVariables false
set_option maxRecDepth 100000

/-- The same labels, in any order. -/
def sameB (ls L : List Int) : Bool := decide (L.length = ls.length ∧ ∀ k (hk : k < L.length), L[k] ∈ ls ∧ L[k] ∉ L.take k)
theorem sameB_no {ls L : List Int} (k : Nat) (hk : k < L.length) (h : ¬ (L[k] ∈ ls ∧ L[k] ∉ L.take k)) : sameB ls L = false := decide_eq_false fun e => h (e.2 k hk)
theorem sameLabels_d {ls L : List Int} (h1 : ls.length ≤ 1099511627776) (h2 : L.length ≤ 1099511627776) : Does Try.prog 90 [.d (ints ls), .d (ints L)] [] (.d (.bool (sameB ls L))) [] := by
  (refine spec_of (by kernel_rfl) Try.func90 k_impl_sameLabels (fnOk (Nat.le_of_ble_eq_true rfl) ?_); unfold C_impl_sameLabels)
  (simp only [Nat.reduceSub, List.length_cons, List.length_nil, Nat.reduceAdd, ch_init1, ch_init2, ch_init3, ch_init4, ch_init5, ch_init6, ch_init7, ch_init8]; try simp only [ch_rep]); (simp only [go_sem, seval, reduceCtorEq, List.replicate])
  by_cases hl : L.length = ls.length
  rotate_left
  · have c : ((L.length : Int) != ls.length) = true := by simp; omega
    have e : sameB ls L = false := decide_eq_false fun x => hl x.1
    simp (disch := omega) only [go_sem, seval, reduceCtorEq, c, e]
    (refine FnEnd.mk (Nat.le_of_ble_eq_true rfl) rfl (of_decide_eq_true rfl) ?_ ?_ <;> try simp only [go_sem, seval, reduceCtorEq])
  have c : ((L.length : Int) != ls.length) = false := by simp [hl]
  simp (disch := omega) only [go_sem, seval, reduceCtorEq, c]
  refine wpN_lpI (L.length) [false, false, false, false, true, true, true, false, false, false, false, false, false, false, false, true, true, true, true, true, true, true, true, true, true, true, true, true, true, true, true] (fun k => ∀ j (hj : j < L.length), j < k → L[j] ∈ ls ∧ L[j] ∉ L.take j) (fun k => [(14, .d (.int k))]) (fun k => []) (fun _ => by (simp only [go_sem, seval, reduceCtorEq, dropF_ch, dropF_cons, dropF_nil, cut, cond_true, cond_false]); first | done | rfl) (fun _ => by (simp only [go_sem, seval, reduceCtorEq, cut]); first | done | rfl) (fun j _ hj => absurd hj (Nat.not_lt_zero j)) (Nat.le_of_ble_eq_true rfl) (by first | (simp only [go_sem, seval, reduceCtorEq, dropF_ch, dropF_cons, dropF_nil, cut, cond_true, cond_false, Int.natCast_zero, Int.natCast_add, Int.natCast_one]; done) | rfl | (simp only [go_sem, seval, reduceCtorEq, dropF_ch, dropF_cons, dropF_nil, cut, cond_true, cond_false, Int.natCast_zero, Int.natCast_add, Int.natCast_one]; rfl)) (by first | (simp only [go_sem, seval, reduceCtorEq, dropF_ch, dropF_cons, dropF_nil, cut, cond_true, cond_false, Int.natCast_zero, Int.natCast_add, Int.natCast_one]; done) | rfl | (simp only [go_sem, seval, reduceCtorEq, dropF_ch, dropF_cons, dropF_nil, cut, cond_true, cond_false, Int.natCast_zero, Int.natCast_add, Int.natCast_one]; rfl)) fun k hk hi => ?_
  unfold L0_impl_sameLabels
  by_cases hlt : k < L.length
  · have c1 : (k : Int) < L.length := by omega
    have g : L[k]? = some L[k] := List.getElem?_eq_getElem hlt
    have hlk : (L.take k).length = k := by simp; omega
    have c2 : (k : Int) ≤ L.length := by omega
    simp (disch := omega) only [go_sem, seval, reduceCtorEq, c1, c2, g]
    simp only [true_or, Int.sub_zero, Int.toNat_natCast, go_sem, seval, reduceCtorEq]
    (refine ti_call (hasInt_d (xs := L.take k) (x := L[k]) (by omega)) ?_ ?_ ?_; (focus (simp only [go_sem, seval, reduceCtorEq, hlk]; done)); (first | rfl | (focus (simp only [go_sem]; done))))
    cases hh : has (L.take k) L[k]
    · simp only [go_sem, seval, reduceCtorEq, hh]
      (refine ti_call (hasInt_d (xs := ls) (x := L[k]) (by omega)) ?_ ?_ ?_; (focus (simp only [go_sem, seval, reduceCtorEq]; done)); (first | rfl | (focus (simp only [go_sem]; done))))
      cases hm : has ls L[k]
      · have e := sameB_no (ls := ls) k hlt (fun x => by rw [has_true.2 x.1] at hm; cases hm)
        simp only [go_sem, seval, reduceCtorEq, hm, e]
        (refine FnEnd.mk (Nat.le_of_ble_eq_true rfl) rfl (of_decide_eq_true rfl) ?_ ?_ <;> try simp only [go_sem, seval, reduceCtorEq])
      · simp (disch := omega) only [go_sem, seval, reduceCtorEq, hm]
        have hI : ∀ j (hj : j < L.length), j < k + 1 → L[j] ∈ ls ∧ L[j] ∉ L.take j := fun j hj hjk => by
          by_cases e : j = k
          · subst e; exact ⟨has_true.1 hm, has_false.1 hh⟩
          · exact hi j hj (by omega)
        (refine NextI.drop [false, false, false, false, true, true, true, false, false, false, false, false, false, false, false, true, true, true, true, true, true, true, true, true, true, true, true, true, true, true, true] (by omega) (hI) (Nat.le_of_ble_eq_true rfl) ?_ ?_ <;> first | (simp only [go_sem, seval, reduceCtorEq, dropF_ch, dropF_cons, dropF_nil, cut, cond_true, cond_false, Int.natCast_zero, Int.natCast_add, Int.natCast_one]; done) | rfl | (simp only [go_sem, seval, reduceCtorEq, dropF_ch, dropF_cons, dropF_nil, cut, cond_true, cond_false, Int.natCast_zero, Int.natCast_add, Int.natCast_one]; rfl) | skip)
    · have e := sameB_no (ls := ls) k hlt (fun x => by rw [has_false.2 x.2] at hh; cases hh)
      simp only [go_sem, seval, reduceCtorEq, hh, e]
      (refine FnEnd.mk (Nat.le_of_ble_eq_true rfl) rfl (of_decide_eq_true rfl) ?_ ?_ <;> try simp only [go_sem, seval, reduceCtorEq])
  · have c1 : ¬ (k : Int) < L.length := by omega
    have e : sameB ls L = true := decide_eq_true ⟨hl, fun j hj => hi j hj (by omega)⟩
    simp (disch := omega) only [go_sem, seval, reduceCtorEq, c1, e]
    (refine FnEnd.mk (Nat.le_of_ble_eq_true rfl) rfl (of_decide_eq_true rfl) ?_ ?_ <;> try simp only [go_sem, seval, reduceCtorEq])
theorem l06Set_d {ls L : List Int} (h1 : ls.length ≤ 1099511627776) (h2 : L.length ≤ 1099511627776) : Does Try.prog 88 [.d (ints ls), .d (ints L)] [] (.d (.bool (sameB ls L))) [] := by
  (refine spec_of (by kernel_rfl) Try.func88 k_spec_l06Set (fnOk (Nat.le_of_ble_eq_true rfl) ?_); unfold C_spec_l06Set)
  (simp only [Nat.reduceSub, List.length_cons, List.length_nil, Nat.reduceAdd, ch_init1, ch_init2, ch_init3, ch_init4, ch_init5, ch_init6, ch_init7, ch_init8]; try simp only [ch_rep]); (simp only [go_sem, seval, reduceCtorEq, List.replicate])
  refine wpN_lpI (L.length) [false, false, false, false, true, true, true, false, false, false, true, true, true, true, true, true, true, true, true, true, true, true, true, true, true, true, true, false, false, false, false, false] (fun k => ∀ j (hj : j < L.length), j < k → L[j] ∈ ls ∧ L[j] ∉ L.take j) (fun k => [(9, .d (.int k))]) (fun k => []) (fun _ => by (simp only [go_sem, seval, reduceCtorEq, dropF_ch, dropF_cons, dropF_nil, cut, cond_true, cond_false]); first | done | rfl) (fun _ => by (simp only [go_sem, seval, reduceCtorEq, cut]); first | done | rfl) (fun j _ hj => absurd hj (Nat.not_lt_zero j)) (Nat.le_of_ble_eq_true rfl) (by first | (simp only [go_sem, seval, reduceCtorEq, dropF_ch, dropF_cons, dropF_nil, cut, cond_true, cond_false, Int.natCast_zero, Int.natCast_add, Int.natCast_one]; done) | rfl | (simp only [go_sem, seval, reduceCtorEq, dropF_ch, dropF_cons, dropF_nil, cut, cond_true, cond_false, Int.natCast_zero, Int.natCast_add, Int.natCast_one]; rfl)) (by first | (simp only [go_sem, seval, reduceCtorEq, dropF_ch, dropF_cons, dropF_nil, cut, cond_true, cond_false, Int.natCast_zero, Int.natCast_add, Int.natCast_one]; done) | rfl | (simp only [go_sem, seval, reduceCtorEq, dropF_ch, dropF_cons, dropF_nil, cut, cond_true, cond_false, Int.natCast_zero, Int.natCast_add, Int.natCast_one]; rfl)) fun k hk hi => ?_
  unfold L0_spec_l06Set
  by_cases hlt : k < L.length
  · have c1 : (k : Int) < L.length := by omega
    have g : L[k]? = some L[k] := List.getElem?_eq_getElem hlt
    have hlk : (L.take k).length = k := by simp; omega
    have c2 : (k : Int) ≤ L.length := by omega
    simp (disch := omega) only [go_sem, seval, reduceCtorEq, c1, c2, g]
    (refine ti_call (l05Find_d (xs := ls) (x := L[k]) (by omega)) ?_ ?_ ?_; (focus (simp only [go_sem, seval, reduceCtorEq]; done)); (first | rfl | (focus (simp only [go_sem]; done))))
    by_cases hm : L[k] ∈ ls
    · obtain ⟨i, hi1, hi2, _, _⟩ := place_mem hm
      have c3 : ¬ (i : Int) < 0 := by omega
      simp (disch := omega) only [go_sem, seval, reduceCtorEq, hi2, c3, c2]
      simp only [true_or, Int.sub_zero, Int.toNat_natCast, go_sem, seval, reduceCtorEq]
      (refine ti_call (l05Find_d (xs := L.take k) (x := L[k]) (by omega)) ?_ ?_ ?_; (focus (simp only [go_sem, seval, reduceCtorEq, hlk]; done)); (first | rfl | (focus (simp only [go_sem]; done))))
      by_cases hh : L[k] ∈ L.take k
      · obtain ⟨q, hq1, hq2, _, _⟩ := place_mem hh
        have c4 : (q : Int) ≥ 0 := by omega
        have e := sameB_no (ls := ls) k hlt (fun x => x.2 hh)
        simp only [go_sem, seval, reduceCtorEq, hq2, c4, e]
        (refine FnEnd.mk (Nat.le_of_ble_eq_true rfl) rfl (of_decide_eq_true rfl) ?_ ?_ <;> try simp only [go_sem, seval, reduceCtorEq])
      · have hq2 := place_no hh
        simp (disch := omega) only [go_sem, seval, reduceCtorEq, hq2]
        have hI : ∀ j (hj : j < L.length), j < k + 1 → L[j] ∈ ls ∧ L[j] ∉ L.take j := fun j hj hjk => by
          by_cases e : j = k
          · subst e; exact ⟨hm, hh⟩
          · exact hi j hj (by omega)
        (refine NextI.drop [false, false, false, false, true, true, true, false, false, false, true, true, true, true, true, true, true, true, true, true, true, true, true, true, true, true, true, false, false, false, false, false] (by omega) (hI) (Nat.le_of_ble_eq_true rfl) ?_ ?_ <;> first | (simp only [go_sem, seval, reduceCtorEq, dropF_ch, dropF_cons, dropF_nil, cut, cond_true, cond_false, Int.natCast_zero, Int.natCast_add, Int.natCast_one]; done) | rfl | (simp only [go_sem, seval, reduceCtorEq, dropF_ch, dropF_cons, dropF_nil, cut, cond_true, cond_false, Int.natCast_zero, Int.natCast_add, Int.natCast_one]; rfl) | skip)
    · have hi2 := place_no hm
      have e := sameB_no (ls := ls) k hlt (fun x => hm x.1)
      simp only [go_sem, seval, reduceCtorEq, hi2, e]
      (refine FnEnd.mk (Nat.le_of_ble_eq_true rfl) rfl (of_decide_eq_true rfl) ?_ ?_ <;> try simp only [go_sem, seval, reduceCtorEq])
  · have c1 : ¬ (k : Int) < L.length := by omega
    simp (disch := omega) only [go_sem, seval, reduceCtorEq, c1]
    (refine FnEnd.mk (Nat.le_of_ble_eq_true rfl) rfl (of_decide_eq_true rfl) ?_ ?_ <;> try simp only [go_sem, seval, reduceCtorEq])
    congr 2
    simp only [sameB]
    by_cases hl : L.length = ls.length
    · rw [decide_eq_true (show L.length = ls.length ∧ _ from ⟨hl, fun j hj => hi j hj (by omega)⟩)]
      simp [hl]
    · rw [decide_eq_false (fun e => hl e.1)]
      simp; omega

/-! ### A tensor with its axes in another order -/
def permD (t : Ten) (L : List Int) : List Int := L.map (dimAt t)
def permOff (t : Ten) (L : List Int) (i : Nat) : Nat := (dotI (L.map (strideL t.labels t.dims)) (digits (permD t L) i)).toNat
def permN (t : Ten) (L : List Int) : Nat := (prodI (permD t L)).toNat
def permR (wd : Nat) (t : Ten) (L : List Int) : Ten := ⟨L, permD t L, gath t.data wd (permOff t L) (permN t L)⟩
/-- What is known of an order of the axes. -/
structure PermOk (t : Ten) (L : List Int) (wd n : Nat) : Prop where
  ax : axOk t.labels t.dims
  pn : prodI t.dims = n
  n1 : 1 ≤ n ∧ n ≤ 4096
  w1 : 1 ≤ wd ∧ wd ≤ 6
  dl : t.data.length = n * wd
  same : sameB t.labels L = true
namespace PermOk
variable {t : Ten} {L : List Int} {wd n : Nat}
theorem len (h : PermOk t L wd n) : L.length = t.labels.length := (of_decide_eq_true h.same).1
theorem sub (h : PermOk t L wd n) : ∀ x ∈ L, x ∈ t.labels := fun x hx => by
  obtain ⟨k, hk, rfl⟩ := List.mem_iff_getElem.1 hx
  exact ((of_decide_eq_true h.same).2 k hk).1
theorem nodup (h : PermOk t L wd n) : L.Nodup := nodup_of_fresh fun k hk => ((of_decide_eq_true h.same).2 k hk).2
theorem sup (h : PermOk t L wd n) : ∀ x ∈ t.labels, x ∈ L := sub_back h.nodup h.sub (Nat.le_of_eq h.len.symm)
theorem len12 (h : PermOk t L wd n) : L.length ≤ 12 := by have := h.len; have := h.ax.1; omega
theorem dbd (h : PermOk t L wd n) : ∀ d ∈ permD t L, 1 ≤ d ∧ d ≤ 8 := fun d hd => by
  simp only [permD, List.mem_map] at hd
  obtain ⟨x, hx, rfl⟩ := hd
  exact dimAt_bd h.ax (h.sub x hx)
theorem pbd (h : PermOk t L wd n) : 1 ≤ prodI (permD t L) ∧ prodI (permD t L) ≤ n := by
  refine ⟨prodI_pos _ (fun d hd => (h.dbd d hd).1), ?_⟩
  have := prodI_sub_le (f := dimAt t) h.nodup h.sub (fun x hx => (dimAt_bd h.ax hx).1)
  rw [dims_map h.ax, h.pn] at this
  exact this
theorem pN (h : PermOk t L wd n) : prodI (permD t L) = permN t L := by have := h.pbd; unfold permN; omega
theorem idx (h : PermOk t L wd n) (i : Nat) : idxOk t.dims (t.labels.map (atL L (digits (permD t L) i))) := by
  refine ⟨by simp [h.ax.len], fun k hk => ?_⟩
  have hk' : k < t.labels.length := by have := h.ax.len; omega
  have hm := h.sup t.labels[k] (List.getElem_mem hk')
  obtain ⟨q, h1, h2, h3, h4⟩ := atL_mem (xs := digits (permD t L) i) hm (by simp [digits_len, permD])
  have h5 := digits_bd (permD t L) i (fun d hd => (h.dbd d hd).1) q (by simpa [permD] using h1)
  have h6 : (permD t L).getD q 0 = t.dims.getD k 0 := by
    rw [getD_of (by simpa [permD] using h1), getD_of hk]
    have h7 : L[q] = t.labels[k] := by rw [List.getElem?_eq_getElem h1] at h3; simpa using h3
    simp only [permD, List.getElem_map, h7]
    exact dimAt_at h.ax hk' hk
  unfold idxAt
  have h8 : (t.labels.map (atL L (digits (permD t L) i))).getD k 0 = atL L (digits (permD t L) i) t.labels[k] := by rw [getD_of (by simpa using hk')]; simp
  rw [h8, h4, ← h6]
  exact h5
theorem off (h : PermOk t L wd n) (i : Nat) : dotI (L.map (strideL t.labels t.dims)) (digits (permD t L) i) = permOff t L i ∧ permOff t L i < n ∧ offs t.dims (t.labels.map (atL L (digits (permD t L) i))) = permOff t L i := by
  have h1 := off_labels h.ax.len (axOk_nodup h.ax) h.nodup h.sup (xs := digits (permD t L) i) (by simp [digits_len, permD])
  have h2 := offs_bd _ _ _ h.ax (h.idx i)
  have h3 := h.pn
  unfold permOff
  rw [h1]
  omega
theorem cut (h : PermOk t L wd n) (i : Nat) : permOff t L i * wd + wd ≤ t.data.length := by
  rw [h.dl]; exact mul_step (h.off i).2.1
theorem dotb (h : PermOk t L wd n) (i k : Nat) : 0 ≤ (L.map (strideL t.labels t.dims)).getD k 0 * (digits (permD t L) i).getD k 0 ∧ (L.map (strideL t.labels t.dims)).getD k 0 * (digits (permD t L) i).getD k 0 ≤ 16777216 := by
  by_cases hk : k < L.length
  · have h1 := digits_bd (permD t L) i (fun d hd => (h.dbd d hd).1) k (by simpa [permD] using hk)
    have h2 := h.dbd ((permD t L).getD k 0) (by rw [getD_of (by simpa [permD] using hk)]; exact List.getElem_mem _)
    have h3 := strideL_bd t.labels t.dims L[k] (fun d hd => (h.ax.dim d hd).1)
    have h4 := h.pn
    have h5 := h.n1
    rw [getD_of (show k < (L.map (strideL t.labels t.dims)).length by simpa using hk), List.getElem_map]
    generalize (digits (permD t L) i).getD k 0 = x at *
    generalize strideL t.labels t.dims L[k] = s at *
    refine ⟨Int.mul_nonneg h3.1 h1.1, ?_⟩
    have : s * x ≤ s * 8 := Int.mul_le_mul_of_nonneg_left (by omega) h3.1
    omega
  · have : (L.map (strideL t.labels t.dims)).getD k 0 = 0 := by simp [List.getD_eq_getElem?_getD, List.getElem?_eq_none (Nat.le_of_not_lt hk)]
    rw [this]; simp
end PermOk
theorem rawPermute_d {kk pp nn : Int} {t : Ten} {L : List Int} {wd n : Nat} (hw : width ⟨kk, pp, nn⟩ = wd) (h : PermOk t L wd n) (hs : TSz 1048576 t) (hL : Sz 1048576 L) :
    Does Try.prog 91 [ringA kk pp nn, tenA t, .d (ints L)] [] (ownT 0 (permR wd t L)) (stoF (permR wd t L)) := by
  have hl12 := h.len12
  have hll := h.len
  have hal := h.ax.len
  have hpl : (permD t L).length = L.length := by simp [permD]
  have hxl := hs.x.len
  (refine spec_of (by kernel_rfl) Try.func91 k_impl_rawPermute (fnOk (Nat.le_of_ble_eq_true rfl) ?_); unfold C_impl_rawPermute)
  (simp only [Nat.reduceSub, List.length_cons, List.length_nil, Nat.reduceAdd, ch_init1, ch_init2, ch_init3, ch_init4, ch_init5, ch_init6, ch_init7, ch_init8]; try simp only [ch_rep]); (simp only [go_sem, seval, reduceCtorEq, List.replicate])
  (refine gi_call (copyInts_d (xs := L) (by omega)) ?_ ?_ ?_; (focus (simp only [go_sem, seval, reduceCtorEq]; done)); (first | rfl | (focus (simp only [go_sem]; done))))
  simp (disch := omega) only [go_sem, seval, reduceCtorEq]
  refine ⟨by omega, ?_⟩
  refine wpN_lp (L.length) [false, false, false, false, false, false, false, false, true, true, false, false, false, false, false, false, false, false, false, false, false, true, true, true, true, true, true, true, true, true, true, true, true, true, true, true, true, false, false, false, false, false, false, false, false, false, false, false, false, false, false, false, false, false, false, false, false, false, false] (fun k => [(20, .d (.int k))]) (fun k => [(4, iv (mix (permD t L) (List.replicate L.length 0) k))]) (fun _ => by (simp only [go_sem, seval, reduceCtorEq, dropF_ch, dropF_cons, dropF_nil, cut, cond_true, cond_false]); first | done | rfl) (fun _ => by (simp only [go_sem, seval, reduceCtorEq, cut]); first | done | rfl) (Nat.le_of_ble_eq_true rfl) (by first | (simp only [go_sem, seval, reduceCtorEq, dropF_ch, dropF_cons, dropF_nil, cut, cond_true, cond_false, Int.natCast_zero, Int.natCast_add, Int.natCast_one, mix_zero]; done) | rfl | (simp only [go_sem, seval, reduceCtorEq, dropF_ch, dropF_cons, dropF_nil, cut, cond_true, cond_false, Int.natCast_zero, Int.natCast_add, Int.natCast_one, mix_zero]; rfl)) (by first | (simp only [go_sem, seval, reduceCtorEq, dropF_ch, dropF_cons, dropF_nil, cut, cond_true, cond_false, Int.natCast_zero, Int.natCast_add, Int.natCast_one, mix_zero]; done) | rfl | (simp only [go_sem, seval, reduceCtorEq, dropF_ch, dropF_cons, dropF_nil, cut, cond_true, cond_false, Int.natCast_zero, Int.natCast_add, Int.natCast_one, mix_zero]; rfl)) fun k hk => ?_
  unfold L1_impl_rawPermute
  by_cases hlt : k < L.length
  · have c1 : (k : Int) < L.length := by omega
    have g : L[k]? = some L[k] := List.getElem?_eq_getElem hlt
    have hm := h.sub L[k] (List.getElem_mem hlt)
    obtain ⟨i, hi1, hi2, hi3, hi4⟩ := dimAt_get hal hm
    have c2 : (i : Int) < t.dims.length := by omega
    have hmx : (permD t L)[k]? = some (dimAt t L[k]) := by simp [permD, hlt]
    have hmn := mix_next (l := permD t L) (r := List.replicate L.length 0) (by simp [hpl]) hmx
    have hlen : (mix (permD t L) (List.replicate L.length 0) k).length = L.length := by rw [mix_len (by simp [hpl])]; exact hpl
    simp (disch := omega) only [go_sem, seval, reduceCtorEq, c1, g]
    (refine gi_call (axisOf_d (t := t) (x := L[k]) hs.l.up.len) ?_ ?_ ?_; (focus (simp only [go_sem, seval, reduceCtorEq]; done)); (first | rfl | (focus (simp only [go_sem]; done))))
    simp (disch := omega) only [go_sem, seval, reduceCtorEq, hi3, c2, hi4, c1]
    refine ⟨by rw [hlen]; omega, ?_⟩
    (refine Next.drop [false, false, false, false, false, false, false, false, true, true, false, false, false, false, false, false, false, false, false, false, false, true, true, true, true, true, true, true, true, true, true, true, true, true, true, true, true, false, false, false, false, false, false, false, false, false, false, false, false, false, false, false, false, false, false, false, false, false, false] (by omega) (Nat.le_of_ble_eq_true rfl) ?_ ?_ <;> first | (simp only [go_sem, seval, reduceCtorEq, dropF_ch, dropF_cons, dropF_nil, cut, cond_true, cond_false, Int.natCast_zero, Int.natCast_add, Int.natCast_one, hmn]; done) | rfl | (simp only [go_sem, seval, reduceCtorEq, dropF_ch, dropF_cons, dropF_nil, cut, cond_true, cond_false, Int.natCast_zero, Int.natCast_add, Int.natCast_one, hmn]; rfl) | skip)
  · have c1 : ¬ (k : Int) < L.length := by omega
    have hf : mix (permD t L) (List.replicate L.length 0) k = permD t L := mix_full (by simp; omega) (by omega)
    simp (disch := omega) only [go_sem, seval, reduceCtorEq, c1, hf]
    have hN := h.pbd
    have hpn := h.pn
    have hn1 := h.n1
    (refine ti_call (stridesOf_d (t := t) (L := L) h.ax (by omega) (by omega)) ?_ ?_ ?_; (focus (simp only [go_sem, seval, reduceCtorEq]; done)); (first | rfl | (focus (simp only [go_sem]; done))))
    simp (disch := omega) only [go_sem, seval, reduceCtorEq]
    refine ⟨by omega, ?_⟩
    (refine wpN_lwk (Wk.nilS 5 2 1 _ _ _ rfl rfl) ?_; simp only [go_sem, seval, reduceCtorEq])
    have hd0 : digits (permD t L) 0 = List.replicate L.length 0 := by
      refine List.ext_getElem (by simp [digits_len, hpl]) fun q h1 h2 => ?_
      have h3 : q < (permD t L).length := by simpa [digits_len] using h1
      have h4 := h.dbd (permD t L)[q] (List.getElem_mem h3)
      have h5 := digits_get (permD t L) 0 q h3
      rw [getD_of h1] at h5
      rw [h5]
      simp [digit]
    have hNN := h.pN
    refine wpN_lpS (0) (fun i => permN t L - i) [false, false, false, false, false, false, false, false, false, false, false, false, false, false, false, false, false, false, false, false, false, false, false, false, false, false, false, false, false, false, false, false, false, false, false, false, false, false, false, false, false, false, false, true, true, true, true, true, true, true, true, true, true, true, true, true, true, true, true] (fun i => i < permN t L) (fun i => []) (fun i => [(5, [.own 3 0 L.length, .own 4 0 L.length, .own 8 0 (i * wd)]), (7, iv (digits (permD t L) (i : Int))), (8, iv (gath t.data wd (permOff t L) i))]) (fun _ => by (simp only [go_sem, seval, reduceCtorEq, dropF_ch, dropF_cons, dropF_nil, cut, cond_true, cond_false]); first | done | rfl) (fun _ => by (simp only [go_sem, seval, reduceCtorEq, cut]); first | done | rfl) (by omega) (Nat.le_of_ble_eq_true rfl) (by first | (simp only [go_sem, seval, reduceCtorEq, dropF_ch, dropF_cons, dropF_nil, cut, cond_true, cond_false, Int.natCast_zero, Int.natCast_add, Int.natCast_one, hd0, gath, Nat.zero_mul]; done) | rfl | (simp only [go_sem, seval, reduceCtorEq, dropF_ch, dropF_cons, dropF_nil, cut, cond_true, cond_false, Int.natCast_zero, Int.natCast_add, Int.natCast_one, hd0, gath, Nat.zero_mul]; rfl)) (by first | (simp only [go_sem, seval, reduceCtorEq, dropF_ch, dropF_cons, dropF_nil, cut, cond_true, cond_false, Int.natCast_zero, Int.natCast_add, Int.natCast_one, hd0, gath, Nat.zero_mul]; done) | rfl | (simp only [go_sem, seval, reduceCtorEq, dropF_ch, dropF_cons, dropF_nil, cut, cond_true, cond_false, Int.natCast_zero, Int.natCast_add, Int.natCast_one, hd0, gath, Nat.zero_mul]; rfl)) fun i hi => ?_
    unfold L0_impl_rawPermute
    have hdl : (digits (permD t L) i).length = L.length := by simp [digits_len, hpl]
    have hdl2 : (digits (permD t L) (i + 1)).length = L.length := by simp [digits_len, hpl]
    have ht1 : List.take L.length (L.map (strideL t.labels t.dims)) = L.map (strideL t.labels t.dims) := List.take_of_length_le (by simp)
    have ht2 : List.take L.length (digits (permD t L) i) = digits (permD t L) i := List.take_of_length_le (by omega)
    have ht3 : List.take L.length (permD t L) = permD t L := List.take_of_length_le (by omega)
    have hoff := (h.off i).1
    have hcut := h.cut i
    have hst := mul_step (wd := wd) hi
    have hNn : permN t L * wd ≤ n * wd := Nat.mul_le_mul_right wd (by omega)
    have hdl3 := h.dl
    have hgl : (gath t.data wd (permOff t L) i).length = i * wd := gath_len fun q _ => h.cut q
    have hwb := h.w1
    have hofn := (h.off i).2.1
    simp only [go_sem, seval, reduceCtorEq]
    (refine gi_call (dotOf_d (a := L.map (strideL t.labels t.dims)) (b := digits (permD t L) i) (by simp [hdl]) (by simp; omega) (fun q _ => h.dotb i q)) ?_ ?_ ?_; (focus (simp only [go_sem, seval, reduceCtorEq, ht1, ht2, hdl]; done)); (first | rfl | (focus (simp only [go_sem]; done))))
    simp only [go_sem, seval, reduceCtorEq, hoff]
    (refine gi_call (rawElem_d (t := t) (x := permOff t L i) hw (by omega) hcut (by omega) (by omega)) ?_ ?_ ?_; (focus (simp only [go_sem, seval, reduceCtorEq]; done)); (first | rfl | (focus (simp only [go_sem]; done))))
    have hcl := cut_len hcut
    have hcd : wd ≤ ((t.data.drop (permOff t L i * wd)).take wd).length := by omega
    have htt : List.take wd (List.take wd (List.drop (permOff t L i * wd) t.data)) = List.take wd (List.drop (permOff t L i * wd) t.data) := List.take_of_length_le (by omega)
    simp (disch := omega) only [go_sem, seval, reduceCtorEq, hcl, hgl, htt]
    refine ⟨by omega, ?_⟩
    (refine ti_callw [7] false (nextIndex_d (ds := permD t L) (n := i) (fun d hd => by have := h.dbd d hd; omega) (by omega) (by omega)) (of_decide_eq_true rfl) ?_ ?_ ?_ ?_ (of_decide_eq_true rfl) ?_; (focus (simp only [go_sem, seval, reduceCtorEq, hpl, ht3, hdl, hdl2]; done)); (focus (simp only [go_sem, seval, reduceCtorEq]; done)); (focus (simp only [go_sem, seval, reduceCtorEq, hpl, ht3, hdl, hdl2]; done)); (focus (simp only [go_sem, seval, reduceCtorEq]; done)))
    by_cases hlast : i + 1 < permN t L
    · have hde : decide (((i : Int) + 1) % prodI (permD t L) ≠ 0) = true := by
        rw [hNN, Int.emod_eq_of_lt (by omega) (by omega)]
        exact decide_eq_true (by omega)
      simp (disch := omega) only [go_sem, seval, reduceCtorEq, hde]
      (refine NextS.drop [false, false, false, false, false, false, false, false, false, false, false, false, false, false, false, false, false, false, false, false, false, false, false, false, false, false, false, false, false, false, false, false, false, false, false, false, false, false, false, false, false, false, false, true, true, true, true, true, true, true, true, true, true, true, true, true, true, true, true] (i + 1) (by omega) (by omega) (Nat.le_of_ble_eq_true rfl) ?_ ?_ <;> first | (simp only [go_sem, seval, reduceCtorEq, dropF_ch, dropF_cons, dropF_nil, cut, cond_true, cond_false, Int.natCast_zero, Int.natCast_add, Int.natCast_one, gath, Nat.add_mul, Nat.one_mul]; done) | rfl | (simp only [go_sem, seval, reduceCtorEq, dropF_ch, dropF_cons, dropF_nil, cut, cond_true, cond_false, Int.natCast_zero, Int.natCast_add, Int.natCast_one, gath, Nat.add_mul, Nat.one_mul]; rfl) | skip)
    · have hde : decide (((i : Int) + 1) % prodI (permD t L) ≠ 0) = false := by
        have : (i : Int) + 1 = permN t L := by omega
        rw [hNN, this, Int.emod_self]
        rfl
      have hN1 : permN t L = i + 1 := by omega
      have hst1 : (i + 1) * wd = i * wd + wd := by rw [Nat.add_mul, Nat.one_mul]
      have hgl2 : (gath t.data wd (permOff t L) (i + 1)).length = i * wd + wd := by rw [gath_len fun q _ => h.cut q, hst1]
      simp (disch := omega) only [go_sem, seval, reduceCtorEq, hde]
      refine FnEnd.wk Wk.nogA ?_
      (refine FnEnd.mk (Nat.le_of_ble_eq_true rfl) rfl (of_decide_eq_true rfl) ?_ ?_ <;> try simp only [go_sem, seval, reduceCtorEq])
      rw [gath] at hgl2
      all_goals simp only [permR, hN1, hpl, hgl2, gath]
end Go.Proofs.Ytmgifmgdfldheaa
