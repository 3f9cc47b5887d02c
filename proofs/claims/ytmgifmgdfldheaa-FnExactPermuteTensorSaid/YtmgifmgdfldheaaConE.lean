/-
  Contracts: copies of tensors, marks that are held, relabelling. No condition.
-/
import Derived.Test.YtmgifmgdfldheaaConD
namespace Go.Proofs.Ytmgifmgdfldheaa
open Go.RowKit Go.Lift Plain
set_option linter.unusedSimpArgs false
set_option linter.unusedVariables false
set_option maxRecDepth 100000

theorem copyTensor_d {t : Ten} (h : TSz 1048576 t) : Does Try.prog 73 [tenA t] [] (ownT 0 t) (stoT t) := by
  (refine spec_of (by kernel_rfl) Try.func73 k_impl_copyTensor (fnOk (Nat.le_of_ble_eq_true rfl) ?_); unfold C_impl_copyTensor)
  (simp only [Nat.reduceSub, List.length_cons, List.length_nil, Nat.reduceAdd, ch_init1, ch_init2, ch_init3, ch_init4, ch_init5, ch_init6, ch_init7, ch_init8]; try simp only [ch_rep]); (simp only [go_sem, seval, reduceCtorEq, List.replicate])
  (refine gi_call (copyInts_d (xs := t.labels) h.l.up.len) ?_ ?_ ?_; (focus (simp only [go_sem, seval, reduceCtorEq]; done)); (first | rfl | (focus (simp only [go_sem]; done))))
  simp only [go_sem, seval, reduceCtorEq]
  (refine gi_call (copyInts_d (xs := t.dims) h.d.up.len) ?_ ?_ ?_; (focus (simp only [go_sem, seval, reduceCtorEq]; done)); (first | rfl | (focus (simp only [go_sem]; done))))
  simp only [go_sem, seval, reduceCtorEq]
  (refine ti_call (copyInts_d (xs := t.data) h.x.up.len) ?_ ?_ ?_; (focus (simp only [go_sem, seval, reduceCtorEq]; done)); (first | rfl | (focus (simp only [go_sem]; done))))
  simp only [go_sem, seval, reduceCtorEq]
  (refine FnEnd.mk (Nat.le_of_ble_eq_true rfl) rfl (of_decide_eq_true rfl) ?_ ?_ <;> try simp only [go_sem, seval, reduceCtorEq])
theorem l05Copy_d {t : Ten} (h : TSz 1048576 t) : Does Try.prog 71 [tenA t] [] (ownT 0 t) (stoT t) := by
  (refine spec_of (by kernel_rfl) Try.func71 k_spec_l05Copy (fnOk (Nat.le_of_ble_eq_true rfl) ?_); unfold C_spec_l05Copy)
  (simp only [Nat.reduceSub, List.length_cons, List.length_nil, Nat.reduceAdd, ch_init1, ch_init2, ch_init3, ch_init4, ch_init5, ch_init6, ch_init7, ch_init8]; try simp only [ch_rep]); (simp only [go_sem, seval, reduceCtorEq, List.replicate])
  (refine gi_call (l05Ints_d (xs := t.labels) h.l.up.len) ?_ ?_ ?_; (focus (simp only [go_sem, seval, reduceCtorEq]; done)); (first | rfl | (focus (simp only [go_sem]; done))))
  simp only [go_sem, seval, reduceCtorEq]
  (refine gi_call (l05Ints_d (xs := t.dims) h.d.up.len) ?_ ?_ ?_; (focus (simp only [go_sem, seval, reduceCtorEq]; done)); (first | rfl | (focus (simp only [go_sem]; done))))
  simp only [go_sem, seval, reduceCtorEq]
  (refine ti_call (l05Ints_d (xs := t.data) h.x.up.len) ?_ ?_ ?_; (focus (simp only [go_sem, seval, reduceCtorEq]; done)); (first | rfl | (focus (simp only [go_sem]; done))))
  simp only [go_sem, seval, reduceCtorEq]
  (refine FnEnd.mk (Nat.le_of_ble_eq_true rfl) rfl (of_decide_eq_true rfl) ?_ ?_ <;> try simp only [go_sem, seval, reduceCtorEq])
theorem markT_sz {m : Nat} {t : Ten} {k : Int} (h : TSz m t) (hk : 0 ≤ k ∧ k + t.labels.length + t.dims.length + t.data.length ≤ 9223372036854775807) : TSz m (markT t k) := by
  have key : ∀ {xs : List Int} {j : Int}, Sz m xs → 0 ≤ j → j + xs.length ≤ 9223372036854775807 → Sz m (markL xs j) := fun {xs j} hs h0 h1 => ⟨by rw [markL_len]; exact hs.len, fun x hx => by
    simp only [markL, List.mem_map, List.mem_range] at hx
    obtain ⟨i, hi, rfl⟩ := hx
    exact ⟨by omega, by omega⟩⟩
  exact ⟨key h.l (by omega) (by omega), key h.d (by omega) (by omega), key h.x (by omega) (by omega)⟩
theorem heldTensor_d {t : Ten} {m : Int} (h : TSz 1048576 t) (h0 : 0 ≤ m ∧ m ≤ 1048576) : Does Try.prog 38 [tenA (markT t m), .d (.int m)] [] (.d (.int (m + t.labels.length + t.dims.length + t.data.length))) [] := by
  have h1 := h.l.len
  have h2 := h.d.len
  have h3 := h.x.len
  (refine spec_of (by kernel_rfl) Try.func38 k_laws_heldTensor (fnOk (Nat.le_of_ble_eq_true rfl) ?_); unfold C_laws_heldTensor)
  (simp only [Nat.reduceSub, List.length_cons, List.length_nil, Nat.reduceAdd, ch_init1, ch_init2, ch_init3, ch_init4, ch_init5, ch_init6, ch_init7, ch_init8]; try simp only [ch_rep]); (simp only [go_sem, seval, reduceCtorEq, List.replicate])
  have e1 : (markL t.labels m).length = t.labels.length := markL_len _ _
  (refine ti_call (heldIntS_d (xs := markL t.labels m) (m := m) (by rw [markL_len]; omega) (by omega)) ?_ ?_ ?_; (focus (simp only [go_sem, seval, reduceCtorEq]; done)); (first | rfl | (focus (simp only [go_sem]; done))))
  have n1 : ¬ m + (t.labels.length : Int) < 0 := by omega
  simp only [go_sem, seval, reduceCtorEq, heldR_mark, n1]
  (refine ti_call (heldIntS_d (xs := markL t.dims (m + t.labels.length)) (m := m + t.labels.length) (by rw [markL_len]; omega) (by omega)) ?_ ?_ ?_; (focus (simp only [go_sem, seval, reduceCtorEq]; done)); (first | rfl | (focus (simp only [go_sem]; done))))
  have n2 : ¬ m + (t.labels.length : Int) + t.dims.length < 0 := by omega
  simp only [go_sem, seval, reduceCtorEq, heldR_mark, n2]
  (refine ti_call (heldIntS_d (xs := markL t.data (m + t.labels.length + t.dims.length)) (m := m + t.labels.length + t.dims.length) (by rw [markL_len]; omega) (by omega)) ?_ ?_ ?_; (focus (simp only [go_sem, seval, reduceCtorEq]; done)); (first | rfl | (focus (simp only [go_sem]; done))))
  have n3 : ¬ m + (t.labels.length : Int) + t.dims.length + t.data.length < 0 := by omega
  simp only [go_sem, seval, reduceCtorEq, heldR_mark, n3]
  (refine FnEnd.mk (Nat.le_of_ble_eq_true rfl) rfl (of_decide_eq_true rfl) ?_ ?_ <;> try simp only [go_sem, seval, reduceCtorEq])

/-! ### Relabelling -/
def relL (fs ts ls : List Int) : List Int := ls.map fun l => ren1 l fs ts
theorem relL_len (fs ts ls : List Int) : (relL fs ts ls).length = ls.length := by simp [relL]
theorem relL_get {fs ts ls : List Int} {k : Nat} (h : k < ls.length) : (relL fs ts ls)[k]? = some (ren1 ls[k] fs ts) := by simp [relL, h]
theorem l06Names_d {ls fs ts : List Int} (h : ls.length ≤ 1048576) (h1 : fs.length ≤ 1048576) (hl : fs.length = ts.length) : Does Try.prog 72 [.d (ints ls), .d (ints fs), .d (ints ts)] [] (.own 0 0 ls.length) [some ⟨1, true, iv (relL fs ts ls)⟩] := by
  have hr := relL_len fs ts ls
  (refine spec_of (by kernel_rfl) Try.func72 k_spec_l06Names (fnOk (Nat.le_of_ble_eq_true rfl) ?_); unfold C_spec_l06Names)
  (simp only [Nat.reduceSub, List.length_cons, List.length_nil, Nat.reduceAdd, ch_init1, ch_init2, ch_init3, ch_init4, ch_init5, ch_init6, ch_init7, ch_init8]; try simp only [ch_rep]); (simp only [go_sem, seval, reduceCtorEq, List.replicate])
  (refine ti_call (l05Ints_d (xs := ls) (by omega)) ?_ ?_ ?_; (focus (simp only [go_sem, seval, reduceCtorEq]; done)); (first | rfl | (focus (simp only [go_sem]; done))))
  simp only [go_sem, seval, reduceCtorEq]
  refine wpN_upto (ls.length) (fun k => (ch (.any) (.d (ints fs)) (.d (ints ts)) (.any) (.any) (.any) (.any) (.own 0 0 ls.length) (.any) (.any) (.any) (.any) (.any) (.d (ints ls)) (.d (.int ls.length)) (.d (.int k)) (ch (.any) (.any) (.any) (.any) (.any) (.any) (.any) (.any) (.any) (.any) (.any) (.any) (.any) (.any) (.any) (.any) [.any, .any]))) (fun k => [some ⟨1, true, iv (mix (relL fs ts ls) ls k)⟩]) (Wk.kept' [1, 2, 7, 13, 14, 15] 1 (Nat.le_of_ble_eq_true rfl) (by first | rfl | simp only [go_sem, seval, reduceCtorEq, keepE, keepF_ch, keepG_ch, keepF, keepG, cut, List.contains_cons, List.contains_nil, Nat.reduceBEq, Int.natCast_zero, Int.natCast_add, Int.natCast_one, mix_zero]) (by first | rfl | simp only [go_sem, seval, reduceCtorEq, keepE, keepF_ch, keepG_ch, keepF, keepG, cut, List.contains_cons, List.contains_nil, Nat.reduceBEq, Int.natCast_zero, Int.natCast_add, Int.natCast_one, mix_zero])) fun k hk => ?_
  unfold L0_spec_l06Names
  by_cases hlt : k < ls.length
  · have h1 : (k : Int) < ls.length := by omega
    have hx : ls[k]? = some ls[k] := List.getElem?_eq_getElem hlt
    have hmn := mix_next hr (relL_get (fs := fs) (ts := ts) hlt)
    simp (disch := omega) only [go_sem, seval, reduceCtorEq, h1, hx]
    (refine ti_call (l05Find_d (xs := fs) (x := ls[k]) (by omega)) ?_ ?_ ?_; (focus (simp only [go_sem, seval, reduceCtorEq]; done)); (first | rfl | (focus (simp only [go_sem]; done))))
    by_cases hm : ls[k] ∈ fs
    · obtain ⟨i, hi, e, _, _⟩ := place_mem hm
      have hi' : i < ts.length := by omega
      have c1 : (i : Int) ≥ 0 := by omega
      have c2 : (i : Int) < ts.length := by omega
      have ht : ts[i]? = some (ren1 ls[k] fs ts) := by simp [ren1, hm, e, hi']
      simp (disch := omega) only [go_sem, seval, reduceCtorEq, e, c1, c2, ht, h1]
      refine ⟨by rw [mix_len hr]; omega, ?_⟩
      (refine Next.mk hlt (Wk.kept' [1, 2, 7, 13, 14, 15] 1 (Nat.le_of_ble_eq_true rfl) ?_ ?_) <;> first | rfl | (simp only [go_sem, seval, reduceCtorEq, keepE, keepF_ch, keepG_ch, keepF, keepG, cut, List.contains_cons, List.contains_nil, Nat.reduceBEq, Int.natCast_zero, Int.natCast_add, Int.natCast_one, hmn]; done) | skip)
    · have e := place_no hm
      have e2 : mix (relL fs ts ls) ls (k + 1) = mix (relL fs ts ls) ls k := by
        rw [← hmn, put_set (by rw [mix_len hr]; omega)]
        refine List.ext_getElem? fun j => ?_
        rw [List.getElem?_set]
        split
        · rename_i hj
          subst hj
          rw [if_pos (by rw [mix_len hr]; omega), mix_get hr, if_neg (Nat.lt_irrefl _), hx]
          simp [ren1, hm]
        · rfl
      simp (disch := omega) only [go_sem, seval, reduceCtorEq, e]
      (refine Next.mk hlt (Wk.kept' [1, 2, 7, 13, 14, 15] 1 (Nat.le_of_ble_eq_true rfl) ?_ ?_) <;> first | rfl | (simp only [go_sem, seval, reduceCtorEq, keepE, keepF_ch, keepG_ch, keepF, keepG, cut, List.contains_cons, List.contains_nil, Nat.reduceBEq, Int.natCast_zero, Int.natCast_add, Int.natCast_one, e2]; done) | skip)
  · have h1 : ¬ (k : Int) < ls.length := by omega
    simp (disch := omega) only [go_sem, seval, reduceCtorEq, h1]
    (refine FnEnd.mk (Nat.le_of_ble_eq_true rfl) rfl (of_decide_eq_true rfl) ?_ ?_ <;> try simp only [go_sem, seval, reduceCtorEq])
    rw [mix_full (by omega) (by omega)]

theorem relL_sz {m : Nat} {fs ts ls : List Int} (h : Sz m ls) (ht : ∀ x ∈ ts, I64 x) (hl : fs.length = ts.length) : Sz m (relL fs ts ls) := ⟨by rw [relL_len]; exact h.len, fun x hx => by
  simp only [relL, List.mem_map] at hx
  obtain ⟨l, hl', rfl⟩ := hx
  unfold ren1
  split
  · rename_i hm
    obtain ⟨i, hi, e, _, _⟩ := place_mem hm
    have hi' : i < ts.length := by omega
    rw [e]
    simp only [Int.toNat_natCast, List.getD_eq_getElem?_getD, List.getElem?_eq_getElem hi', Option.getD_some]
    exact ht _ (List.getElem_mem _)
  · exact h.wf l hl'⟩
def relabelOk (r : Rg) (t : Ten) (fs ts : List Int) : Bool := tensorOk r t.labels t.dims t.data && decide (fs.length = ts.length) && tensorOk r (relL fs ts t.labels) t.dims t.data
def relabelT (r : Rg) (t : Ten) (fs ts : List Int) : Ten := if relabelOk r t fs ts = true then ⟨relL fs ts t.labels, t.dims, t.data⟩ else ⟨[], [], []⟩
theorem relabelT_sz {r : Rg} {t : Ten} {fs ts : List Int} (h : TSz 1048576 t) (ht : Sz 1048576 ts) : TSz 1048576 (relabelT r t fs ts) := by
  unfold relabelT
  split
  · rename_i ho
    simp only [relabelOk, Bool.and_eq_true, decide_eq_true_eq] at ho
    exact ⟨relL_sz h.l ht.wf ho.1.2, h.d, h.x⟩
  · exact ⟨⟨by simp, by simp⟩, ⟨by simp, by simp⟩, ⟨by simp, by simp⟩⟩
theorem iv_nil : iv [] = [] := rfl
attribute [go_sem] iv_nil
theorem relL_take (fs ts ls : List Int) : (relL fs ts ls).take ls.length = relL fs ts ls := List.take_of_length_le (by rw [relL_len]; exact Nat.le_refl _)
attribute [local go_sem] relL_len relL_take
theorem iRelabelTensor_d {kk pp nn : Int} {t : Ten} {fs ts : List Int} (a : I64 kk) (b : I64 pp) (c : I64 nn) (h : TSz 1048576 t) (hf : Sz 1048576 fs) (ht : Sz 1048576 ts) :
    Does Try.prog 37 [ringA kk pp nn, tenA t, .d (ints fs), .d (ints ts)] [] (.tup [ownT 0 (relabelT ⟨kk, pp, nn⟩ t fs ts), .d (.bool (relabelOk ⟨kk, pp, nn⟩ t fs ts))]) (stoT (relabelT ⟨kk, pp, nn⟩ t fs ts)) := by
  have hf1 := hf.len
  have hl1 := h.l.len
  (refine spec_of (by kernel_rfl) Try.func37 k_impl_RelabelTensor (fnOk (Nat.le_of_ble_eq_true rfl) ?_); unfold C_impl_RelabelTensor)
  (simp only [Nat.reduceSub, List.length_cons, List.length_nil, Nat.reduceAdd, ch_init1, ch_init2, ch_init3, ch_init4, ch_init5, ch_init6, ch_init7, ch_init8]; try simp only [ch_rep]); (simp only [go_sem, seval, reduceCtorEq, List.replicate])
  (refine ti_call (iTensorOk_d (t := t) a b c h.up) ?_ ?_ ?_; (focus (simp only [go_sem, seval, reduceCtorEq]; done)); (first | rfl | (focus (simp only [go_sem]; done))))
  cases h1 : tensorOk ⟨kk, pp, nn⟩ t.labels t.dims t.data
  · have e1 : relabelOk ⟨kk, pp, nn⟩ t fs ts = false := by simp [relabelOk, h1]
    have e2 : relabelT ⟨kk, pp, nn⟩ t fs ts = ⟨[], [], []⟩ := by simp [relabelT, e1]
    simp only [go_sem, seval, reduceCtorEq, h1, e1, e2]
    refine FnEnd.wk (Wk.trans (Wk.nilS 2 0 1 _ _ _ rfl rfl) (Wk.trans (Wk.nilS 2 1 1 _ _ _ rfl rfl) (Wk.nilS 2 2 1 _ _ _ rfl rfl))) ?_
    (refine FnEnd.mk (Nat.le_of_ble_eq_true rfl) rfl (of_decide_eq_true rfl) ?_ ?_ <;> try simp only [go_sem, seval, reduceCtorEq])
  by_cases h2 : fs.length = ts.length
  rotate_left
  · have e1 : relabelOk ⟨kk, pp, nn⟩ t fs ts = false := by simp [relabelOk, h2]
    have e2 : relabelT ⟨kk, pp, nn⟩ t fs ts = ⟨[], [], []⟩ := by simp [relabelT, e1]
    have h2' : ((fs.length : Int) != ts.length) = true := by simp; omega
    simp only [go_sem, seval, reduceCtorEq, h1, h2', e1, e2]
    refine FnEnd.wk (Wk.trans (Wk.nilS 2 0 1 _ _ _ rfl rfl) (Wk.trans (Wk.nilS 2 1 1 _ _ _ rfl rfl) (Wk.nilS 2 2 1 _ _ _ rfl rfl))) ?_
    (refine FnEnd.mk (Nat.le_of_ble_eq_true rfl) rfl (of_decide_eq_true rfl) ?_ ?_ <;> try simp only [go_sem, seval, reduceCtorEq])
  have h2' : ((fs.length : Int) != ts.length) = false := by simp [h2]
  simp only [go_sem, seval, reduceCtorEq, h1, h2']
  (refine ti_call (copyTensor_d h) ?_ ?_ ?_; (focus (simp only [go_sem, seval, reduceCtorEq]; done)); (first | rfl | (focus (simp only [go_sem]; done))))
  simp only [go_sem, seval, reduceCtorEq]
  have hr := relL_len fs ts t.labels
  refine wpN_upto (t.labels.length) (fun k => (ch (.any) (.any) (.d (ints fs)) (.d (ints ts)) (.ptr 0 0) (.any) (.any) (.any) (.ptr 2 0) (.any) (.ptr 6 0) (.any) (.any) (.any) (.any) (.any) (ch (.any) (.any) (.any) (.any) (.any) (.any) (.any) (.any) (.any) (.any) (.any) (.any) (.own 3 0 t.labels.length) (.d (.int t.labels.length)) (.d (.int k)) (.any) (ch (.any) (.any) (.any) (.any) (.any) (.any) (.any) (.any) (.any) (.any) (.any) (.any) (.any) (.any) (.any) (.any) [.any, .any])))) (fun k => [some ⟨0, false, [.d (.int kk), .d (.int pp), .d (.int nn)]⟩, some ⟨0, false, [.d (ints t.labels), .d (ints t.dims), .d (ints t.data)]⟩, some ⟨0, false, [.nil, .nil, .nil]⟩, some ⟨1, true, iv (mix (relL fs ts t.labels) t.labels k)⟩, some ⟨1, true, iv t.dims⟩, some ⟨1, true, iv t.data⟩, some ⟨0, false, [.own 3 0 t.labels.length, .own 4 0 t.dims.length, .own 5 0 t.data.length]⟩]) (Wk.kept' [2, 3, 4, 8, 10, 28, 29, 30] 7 (Nat.le_of_ble_eq_true rfl) (by first | rfl | simp only [go_sem, seval, reduceCtorEq, keepE, keepF_ch, keepG_ch, keepF, keepG, cut, List.contains_cons, List.contains_nil, Nat.reduceBEq, Int.natCast_zero, Int.natCast_add, Int.natCast_one, mix_zero]) (by first | rfl | simp only [go_sem, seval, reduceCtorEq, keepE, keepF_ch, keepG_ch, keepF, keepG, cut, List.contains_cons, List.contains_nil, Nat.reduceBEq, Int.natCast_zero, Int.natCast_add, Int.natCast_one, mix_zero])) fun k hk => ?_
  unfold L0_impl_RelabelTensor
  by_cases hlt : k < t.labels.length
  · have h1 : (k : Int) < t.labels.length := by omega
    have hx : (mix (relL fs ts t.labels) t.labels k)[k]? = some t.labels[k] := by rw [mix_get hr, if_neg (Nat.lt_irrefl _)]; exact List.getElem?_eq_getElem hlt
    have hmn := mix_next hr (relL_get (fs := fs) (ts := ts) hlt)
    simp (disch := omega) only [go_sem, seval, reduceCtorEq, h1, hx]
    (refine gi_call (renamed_d (x := t.labels[k]) (fs := fs) (ts := ts) (by omega) h2) ?_ ?_ ?_; (focus (simp only [go_sem, seval, reduceCtorEq]; done)); (first | rfl | (focus (simp only [go_sem]; done))))
    simp (disch := omega) only [go_sem, seval, reduceCtorEq, h1]
    refine ⟨by rw [mix_len hr]; omega, ?_⟩
    (refine Next.mk hlt (Wk.kept' [2, 3, 4, 8, 10, 28, 29, 30] 7 (Nat.le_of_ble_eq_true rfl) ?_ ?_) <;> first | rfl | (simp only [go_sem, seval, reduceCtorEq, keepE, keepF_ch, keepG_ch, keepF, keepG, cut, List.contains_cons, List.contains_nil, Nat.reduceBEq, Int.natCast_zero, Int.natCast_add, Int.natCast_one, hmn]; done) | skip)
  · have h3 : ¬ (k : Int) < t.labels.length := by omega
    simp (disch := omega) only [go_sem, seval, reduceCtorEq, h3, mix_full (l := relL fs ts t.labels) (r := t.labels) (k := k) (by omega) (by omega)]
    (refine ti_call (iTensorOk_d (t := ⟨relL fs ts t.labels, t.dims, t.data⟩) a b c ⟨relL_sz h.l.up ht.wf h2, h.d.up, h.x.up⟩) ?_ ?_ ?_; (focus (simp only [go_sem, seval, reduceCtorEq]; done)); (first | rfl | (focus (simp only [go_sem]; done))))
    cases h4 : tensorOk ⟨kk, pp, nn⟩ (relL fs ts t.labels) t.dims t.data
    · have e1 : relabelOk ⟨kk, pp, nn⟩ t fs ts = false := by simp [relabelOk, h4]
      have e2 : relabelT ⟨kk, pp, nn⟩ t fs ts = ⟨[], [], []⟩ := by simp [relabelT, e1]
      simp only [go_sem, seval, reduceCtorEq, h4, e1, e2]
      refine FnEnd.wk (Wk.trans (Wk.nilS 2 0 1 _ _ _ rfl rfl) (Wk.trans (Wk.nilS 2 1 1 _ _ _ rfl rfl) (Wk.nilS 2 2 1 _ _ _ rfl rfl))) ?_
      (refine FnEnd.mk (Nat.le_of_ble_eq_true rfl) rfl (of_decide_eq_true rfl) ?_ ?_ <;> try simp only [go_sem, seval, reduceCtorEq])
    · have e1 : relabelOk ⟨kk, pp, nn⟩ t fs ts = true := by simp [relabelOk, h1, h2, h4]
      have e2 : relabelT ⟨kk, pp, nn⟩ t fs ts = ⟨relL fs ts t.labels, t.dims, t.data⟩ := by simp [relabelT, e1]
      simp only [go_sem, seval, reduceCtorEq, h4, e1, e2]
      (refine FnEnd.mk (Nat.le_of_ble_eq_true rfl) rfl (of_decide_eq_true rfl) ?_ ?_ <;> try simp only [go_sem, seval, reduceCtorEq])

theorem tsize_neg {ls ds : List Int} : tsize ls ds < 0 ↔ tsize ls ds = -1 := by
  rcases tsize_cases ls ds with h | ⟨_, _, h, h'⟩ <;> omega
/-- A tensor with other labels is right if these are. -/
theorem tensorOk_lab {r : Rg} {ls ls' ds xs : List Int} (h : tensorOk r ls ds xs = true) : tensorOk r ls' ds xs = decide (tsize ls' ds ≠ -1) := by
  obtain ⟨h1, h2, h3, h4, h5, h6⟩ := tensorOk_facts h
  simp only [tensorOk, Bool.and_eq_true, decide_eq_true_eq] at h
  obtain ⟨⟨g1, g2, g3⟩, g4⟩ := h
  rcases tsize_cases ls' ds with e | ⟨_, _, e, _⟩
  · simp [tensorOk, e]
  · have : tsize ls' ds ≠ -1 := by omega
    simp only [tensorOk, g1, g4, Bool.true_and, Bool.and_true, decide_eq_decide]
    exact ⟨fun h => h.1, fun h => ⟨h, by rw [e, h6]⟩⟩
theorem sRelabelTensor_d {kk pp nn : Int} {t : Ten} {fs ts : List Int} (a : I64 kk) (b : I64 pp) (c : I64 nn) (h : TSz 1048576 t) (hf : Sz 1048576 fs) (ht : Sz 1048576 ts) :
    Does Try.prog 36 [ringA kk pp nn, tenA t, .d (ints fs), .d (ints ts)] [] (.tup [ownT 0 (relabelT ⟨kk, pp, nn⟩ t fs ts), .d (.bool (relabelOk ⟨kk, pp, nn⟩ t fs ts))]) (stoT (relabelT ⟨kk, pp, nn⟩ t fs ts)) := by
  have hf1 := hf.len
  have hl1 := h.l.len
  (refine spec_of (by kernel_rfl) Try.func36 k_spec_RelabelTensor (fnOk (Nat.le_of_ble_eq_true rfl) ?_); unfold C_spec_RelabelTensor)
  (simp only [Nat.reduceSub, List.length_cons, List.length_nil, Nat.reduceAdd, ch_init1, ch_init2, ch_init3, ch_init4, ch_init5, ch_init6, ch_init7, ch_init8]; try simp only [ch_rep]); (simp only [go_sem, seval, reduceCtorEq, List.replicate])
  (refine ti_call (sTensorOk_d (t := t) a b c h.up) ?_ ?_ ?_; (focus (simp only [go_sem, seval, reduceCtorEq]; done)); (first | rfl | (focus (simp only [go_sem]; done))))
  cases h1 : tensorOk ⟨kk, pp, nn⟩ t.labels t.dims t.data
  · have e1 : relabelOk ⟨kk, pp, nn⟩ t fs ts = false := by simp [relabelOk, h1]
    have e2 : relabelT ⟨kk, pp, nn⟩ t fs ts = ⟨[], [], []⟩ := by simp [relabelT, e1]
    simp only [go_sem, seval, reduceCtorEq, h1, e1, e2]
    refine FnEnd.wk (Wk.trans (Wk.nilS 2 0 1 _ _ _ rfl rfl) (Wk.trans (Wk.nilS 2 1 1 _ _ _ rfl rfl) (Wk.nilS 2 2 1 _ _ _ rfl rfl))) ?_
    (refine FnEnd.mk (Nat.le_of_ble_eq_true rfl) rfl (of_decide_eq_true rfl) ?_ ?_ <;> try simp only [go_sem, seval, reduceCtorEq])
  by_cases h2 : fs.length = ts.length
  rotate_left
  · have e1 : relabelOk ⟨kk, pp, nn⟩ t fs ts = false := by simp [relabelOk, h2]
    have e2 : relabelT ⟨kk, pp, nn⟩ t fs ts = ⟨[], [], []⟩ := by simp [relabelT, e1]
    have h2' : ((fs.length : Int) != ts.length) = true := by simp; omega
    simp only [go_sem, seval, reduceCtorEq, h1, h2', e1, e2]
    refine FnEnd.wk (Wk.trans (Wk.nilS 2 0 1 _ _ _ rfl rfl) (Wk.trans (Wk.nilS 2 1 1 _ _ _ rfl rfl) (Wk.nilS 2 2 1 _ _ _ rfl rfl))) ?_
    (refine FnEnd.mk (Nat.le_of_ble_eq_true rfl) rfl (of_decide_eq_true rfl) ?_ ?_ <;> try simp only [go_sem, seval, reduceCtorEq])
  have h2' : ((fs.length : Int) != ts.length) = false := by simp [h2]
  simp only [go_sem, seval, reduceCtorEq, h1, h2']
  (refine ti_call (l05Copy_d h) ?_ ?_ ?_; (focus (simp only [go_sem, seval, reduceCtorEq]; done)); (first | rfl | (focus (simp only [go_sem]; done))))
  simp only [go_sem, seval, reduceCtorEq]
  (refine ti_call (l06Names_d (ls := t.labels) (fs := fs) (ts := ts) (by omega) (by omega) h2) ?_ ?_ ?_; (focus (simp only [go_sem, seval, reduceCtorEq]; done)); (first | rfl | (focus (simp only [go_sem]; done))))
  simp only [go_sem, seval, reduceCtorEq]
  (refine ti_call (sTensorSize_d (t := ⟨relL fs ts t.labels, t.dims, t.data⟩) ⟨relL_sz h.l.up ht.wf h2, h.d.up, h.x.up⟩) ?_ ?_ ?_; (focus (simp only [go_sem, seval, reduceCtorEq]; done)); (first | rfl | (focus (simp only [go_sem]; done))))
  have hto := tensorOk_lab (ls' := relL fs ts t.labels) h1
  by_cases h4 : tsize (relL fs ts t.labels) t.dims = -1
  · have e1 : relabelOk ⟨kk, pp, nn⟩ t fs ts = false := by simp [relabelOk, hto, h4]
    have e2 : relabelT ⟨kk, pp, nn⟩ t fs ts = ⟨[], [], []⟩ := by simp [relabelT, e1]
    simp only [go_sem, seval, reduceCtorEq, h4, e1, e2]
    refine FnEnd.wk (Wk.trans (Wk.nilS 2 0 1 _ _ _ rfl rfl) (Wk.trans (Wk.nilS 2 1 1 _ _ _ rfl rfl) (Wk.nilS 2 2 1 _ _ _ rfl rfl))) ?_
    (refine FnEnd.mk (Nat.le_of_ble_eq_true rfl) rfl (of_decide_eq_true rfl) ?_ ?_ <;> try simp only [go_sem, seval, reduceCtorEq])
  · have e1 : relabelOk ⟨kk, pp, nn⟩ t fs ts = true := by simp [relabelOk, hto, h1, h2, h4]
    have e2 : relabelT ⟨kk, pp, nn⟩ t fs ts = ⟨relL fs ts t.labels, t.dims, t.data⟩ := by simp [relabelT, e1]
    have h5 : ¬ tsize (relL fs ts t.labels) t.dims < 0 := fun h => h4 (tsize_neg.1 h)
    simp only [go_sem, seval, reduceCtorEq, h5, e1, e2]
    (refine FnEnd.mk (Nat.le_of_ble_eq_true rfl) rfl (of_decide_eq_true rfl) ?_ ?_ <;> try simp only [go_sem, seval, reduceCtorEq])
end Go.Proofs.Ytmgifmgdfldheaa
