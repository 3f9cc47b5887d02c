/-
  Contracts: what the contraction of two tensors calls. No condition.
-/
import Derived.Test.YtcgnehacihjnkaaCodeU
import Derived.Test.YtcgnehacihjnkaaCodeV
import Derived.Test.YtcgnehacihjnkaaTenB
import Derived.Test.YtcgnehacihjnkaaPlK
namespace Go.Proofs.Ytcgnehacihjnkaa
open Go.RowKit Go.Lift Plain
set_option linter.unusedSimpArgs false
set_option linter.unusedVariables false
set_option maxRecDepth 100000

/-! ### Labels that are kept -/
theorem keptOnly_d {ls keep : List Int} (h : ls.length ≤ 1048576) (hk : keep.length ≤ 1048576) : Does Try.prog 127 [.d (ints ls), .d (ints keep)] [] (.own 0 0 (ls.filter (has keep)).length) [some ⟨1, true, iv (ls.filter (has keep))⟩] := by
  (refine spec_of (by kernel_rfl) Try.func127 k_impl_keptOnly (fnOk (Nat.le_of_ble_eq_true rfl) ?_); unfold C_impl_keptOnly)
  (simp only [Nat.reduceSub, List.length_cons, List.length_nil, Nat.reduceAdd, ch_init1, ch_init2, ch_init3, ch_init4, ch_init5, ch_init6, ch_init7, ch_init8]; try simp only [ch_rep]); (simp only [go_sem, seval, reduceCtorEq, List.replicate])
  (refine wpN_lwk (Wk.nilE 5 1 _ _ rfl) ?_; simp only [go_sem, seval, reduceCtorEq])
  refine wpN_lp (ls.length) [false, false, false, false, false, false, false, true, false, false, false, true, true, true, true, true, true, true, true, true, true, true, false] (fun k => [(5, .own 0 0 ((ls.take k).filter (has keep)).length), (10, .d (.int k))]) (fun k => [(0, iv ((ls.take k).filter (has keep)))]) (fun _ => by (simp only [go_sem, seval, reduceCtorEq, dropF_ch, dropF_cons, dropF_nil, cut, cond_true, cond_false]); first | done | rfl) (fun _ => by (simp only [go_sem, seval, reduceCtorEq, cut]); first | done | rfl) (Nat.le_of_ble_eq_true rfl) (by first | (simp only [go_sem, seval, reduceCtorEq, dropF_ch, dropF_cons, dropF_nil, cut, cond_true, cond_false, Int.natCast_zero, Int.natCast_add, Int.natCast_one, List.take_zero, List.filter_nil, iv_nil]; done) | rfl | (simp only [go_sem, seval, reduceCtorEq, dropF_ch, dropF_cons, dropF_nil, cut, cond_true, cond_false, Int.natCast_zero, Int.natCast_add, Int.natCast_one, List.take_zero, List.filter_nil, iv_nil]; rfl)) (by first | (simp only [go_sem, seval, reduceCtorEq, dropF_ch, dropF_cons, dropF_nil, cut, cond_true, cond_false, Int.natCast_zero, Int.natCast_add, Int.natCast_one, List.take_zero, List.filter_nil, iv_nil]; done) | rfl | (simp only [go_sem, seval, reduceCtorEq, dropF_ch, dropF_cons, dropF_nil, cut, cond_true, cond_false, Int.natCast_zero, Int.natCast_add, Int.natCast_one, List.take_zero, List.filter_nil, iv_nil]; rfl)) fun k hk => ?_
  unfold L0_impl_keptOnly
  have hfl := filter_len ls k (has keep)
  by_cases hlt : k < ls.length
  · have d1 : (k : Int) < ls.length := by omega
    have g : ls[k]? = some ls[k] := List.getElem?_eq_getElem hlt
    simp (disch := omega) only [go_sem, seval, reduceCtorEq, d1, g]
    (refine ti_call (hasInt_d (xs := keep) (x := ls[k]) (by omega)) ?_ ?_ ?_; (focus (simp only [go_sem, seval, reduceCtorEq]; done)); (first | rfl | (focus (simp only [go_sem]; done))))
    cases hh : has keep ls[k]
    · have e := filter_no (p := has keep) hlt hh
      simp (disch := omega) only [go_sem, seval, reduceCtorEq, hh]
      (refine Next.drop [false, false, false, false, false, false, false, true, false, false, false, true, true, true, true, true, true, true, true, true, true, true, false] (by omega) (Nat.le_of_ble_eq_true rfl) ?_ ?_ <;> first | (simp only [go_sem, seval, reduceCtorEq, dropF_ch, dropF_cons, dropF_nil, cut, cond_true, cond_false, Int.natCast_zero, Int.natCast_add, Int.natCast_one, e]; done) | rfl | (simp only [go_sem, seval, reduceCtorEq, dropF_ch, dropF_cons, dropF_nil, cut, cond_true, cond_false, Int.natCast_zero, Int.natCast_add, Int.natCast_one, e]; rfl) | skip)
    · have e := filter_yes (p := has keep) hlt hh
      simp (disch := omega) only [go_sem, seval, reduceCtorEq, hh]
      (repeat (refine And.intro (by omega) ?_))
      (refine Next.drop [false, false, false, false, false, false, false, true, false, false, false, true, true, true, true, true, true, true, true, true, true, true, false] (by omega) (Nat.le_of_ble_eq_true rfl) ?_ ?_ <;> first | (simp only [go_sem, seval, reduceCtorEq, dropF_ch, dropF_cons, dropF_nil, cut, cond_true, cond_false, Int.natCast_zero, Int.natCast_add, Int.natCast_one, e, List.length_append]; done) | rfl | (simp only [go_sem, seval, reduceCtorEq, dropF_ch, dropF_cons, dropF_nil, cut, cond_true, cond_false, Int.natCast_zero, Int.natCast_add, Int.natCast_one, e, List.length_append]; rfl) | skip)
  · have d1 : ¬ (k : Int) < ls.length := by omega
    obtain rfl : k = ls.length := by omega
    simp (disch := omega) only [go_sem, seval, reduceCtorEq, d1, List.take_length]
    (refine FnEnd.mk (Nat.le_of_ble_eq_true rfl) rfl (of_decide_eq_true rfl) ?_ ?_ <;> try simp only [go_sem, seval, reduceCtorEq])
theorem zeroE_put {kk pp : Int} {wd : Nat} (h : 1 ≤ wd) (h4 : kk = 4) : iv (zeroE kk pp wd) = .d (.int pp) :: iv (List.drop 1 (List.replicate wd (0 : Int))) := by
  obtain ⟨w, rfl⟩ : ∃ w, wd = w + 1 := ⟨wd - 1, by omega⟩
  unfold zeroE
  rw [if_pos h4]
  rfl
theorem rawZero_d {kk pp nn : Int} {wd : Nat} (hw : width ⟨kk, pp, nn⟩ = wd) (h1 : 1 ≤ wd ∧ wd ≤ 6) : Does Try.prog 130 [ringA kk pp nn] [] (.own 0 0 wd) [some ⟨1, true, iv (zeroE kk pp wd)⟩] := by
  have hz := zeroE_len kk pp wd
  (refine spec_of (by kernel_rfl) Try.func130 k_impl_rawZero (fnOk (Nat.le_of_ble_eq_true rfl) ?_); unfold C_impl_rawZero)
  (simp only [Nat.reduceSub, List.length_cons, List.length_nil, Nat.reduceAdd, ch_init1, ch_init2, ch_init3, ch_init4, ch_init5, ch_init6, ch_init7, ch_init8]; try simp only [ch_rep]); (simp only [go_sem, seval, reduceCtorEq, List.replicate])
  (refine ti_call (rawWidth_d kk pp nn) ?_ ?_ ?_; (focus (simp only [go_sem, seval, reduceCtorEq, hw]; done)); (first | rfl | (focus (simp only [go_sem]; done))))
  simp (disch := omega) only [go_sem, seval, reduceCtorEq, hw]
  refine And.intro ⟨by omega, by omega⟩ ?_
  by_cases h4 : kk = 4
  · have c : (kk == 4) = true := by simp [h4]
    have e := zeroE_put (pp := pp) h1.1 h4
    have hlr : (List.replicate wd (0 : Int)).length = wd := List.length_replicate
    simp (disch := omega) only [go_sem, seval, reduceCtorEq, c]
    refine ⟨by omega, by rw [hlr]; omega, ?_⟩
    rw [e]
    (refine FnEnd.mk (Nat.le_of_ble_eq_true rfl) rfl (of_decide_eq_true rfl) ?_ ?_ <;> try simp only [go_sem, seval, reduceCtorEq])
  · have c : (kk == 4) = false := by simp [h4]
    have e : zeroE kk pp wd = List.replicate wd 0 := by rw [zeroE, if_neg h4]
    simp (disch := omega) only [go_sem, seval, reduceCtorEq, c, e]
    (refine FnEnd.mk (Nat.le_of_ble_eq_true rfl) rfl (of_decide_eq_true rfl) ?_ ?_ <;> try simp only [go_sem, seval, reduceCtorEq])
theorem l02Zero_d {kk pp nn : Int} {wd : Nat} (hw : width ⟨kk, pp, nn⟩ = wd) (h1 : 1 ≤ wd ∧ wd ≤ 6) : Does Try.prog 182 [ringA kk pp nn] [] (.own 0 0 wd) [some ⟨1, true, iv (zeroE kk pp wd)⟩] := by
  have hz := zeroE_len kk pp wd
  (refine spec_of (by kernel_rfl) Try.func182 k_spec_l02Zero (fnOk (Nat.le_of_ble_eq_true rfl) ?_); unfold C_spec_l02Zero)
  (simp only [Nat.reduceSub, List.length_cons, List.length_nil, Nat.reduceAdd, ch_init1, ch_init2, ch_init3, ch_init4, ch_init5, ch_init6, ch_init7, ch_init8]; try simp only [ch_rep]); (simp only [go_sem, seval, reduceCtorEq, List.replicate])
  (refine ti_call (l02Width_d kk pp nn) ?_ ?_ ?_; (focus (simp only [go_sem, seval, reduceCtorEq, hw]; done)); (first | rfl | (focus (simp only [go_sem]; done))))
  simp (disch := omega) only [go_sem, seval, reduceCtorEq, hw]
  refine And.intro ⟨by omega, by omega⟩ ?_
  by_cases h4 : kk = 4
  · have c : (kk == 4) = true := by simp [h4]
    have e := zeroE_put (pp := pp) h1.1 h4
    have hlr : (List.replicate wd (0 : Int)).length = wd := List.length_replicate
    simp (disch := omega) only [go_sem, seval, reduceCtorEq, c]
    refine ⟨by omega, by rw [hlr]; omega, ?_⟩
    rw [e]
    (refine FnEnd.mk (Nat.le_of_ble_eq_true rfl) rfl (of_decide_eq_true rfl) ?_ ?_ <;> try simp only [go_sem, seval, reduceCtorEq])
  · have c : (kk == 4) = false := by simp [h4]
    have e : zeroE kk pp wd = List.replicate wd 0 := by rw [zeroE, if_neg h4]
    simp (disch := omega) only [go_sem, seval, reduceCtorEq, c, e]
    (refine FnEnd.mk (Nat.le_of_ble_eq_true rfl) rfl (of_decide_eq_true rfl) ?_ ?_ <;> try simp only [go_sem, seval, reduceCtorEq])
theorem l08Keep_d {ls ds keep : List Int} (hn : ls.Nodup) (h : ls.length ≤ 1048576) (hl : ls.length = ds.length) (hk : keep.length ≤ 1048576) : Does Try.prog 164 [.d (ints ls), .d (ints ds), .d (ints keep)] [] (.agg [.own 0 0 (ls.filter (has keep)).length, .own 1 0 (ls.filter (has keep)).length, .nil]) [some ⟨1, true, iv (ls.filter (has keep))⟩, some ⟨1, true, iv ((ls.filter (has keep)).map (dAt ls ds))⟩] := by
  (refine spec_of (by kernel_rfl) Try.func164 k_spec_l08Keep (fnOk (Nat.le_of_ble_eq_true rfl) ?_); unfold C_spec_l08Keep)
  (simp only [Nat.reduceSub, List.length_cons, List.length_nil, Nat.reduceAdd, ch_init1, ch_init2, ch_init3, ch_init4, ch_init5, ch_init6, ch_init7, ch_init8]; try simp only [ch_rep]); (simp only [go_sem, seval, reduceCtorEq, List.replicate])
  (refine wpN_lwk (Wk.nilS 1 0 1 _ _ _ rfl rfl) ?_; simp only [go_sem, seval, reduceCtorEq])
  (refine wpN_lwk (Wk.nilS 1 1 1 _ _ _ rfl rfl) ?_; simp only [go_sem, seval, reduceCtorEq])
  refine wpN_lp (ls.length) [false, false, false, false, false, false, false, false, true, true, false, false, false, false, true, true, true, true, true, true, true, true, true, true, true, true, true, true, true, true, true, true, true, true, true, true, true, true, false] (fun k => [(13, .d (.int k))]) (fun k => [(1, [.own 2 0 ((ls.take k).filter (has keep)).length, .own 3 0 ((ls.take k).filter (has keep)).length, .nil]), (2, iv ((ls.take k).filter (has keep))), (3, iv (((ls.take k).filter (has keep)).map (dAt ls ds)))]) (fun _ => by (simp only [go_sem, seval, reduceCtorEq, dropF_ch, dropF_cons, dropF_nil, cut, cond_true, cond_false]); first | done | rfl) (fun _ => by (simp only [go_sem, seval, reduceCtorEq, cut]); first | done | rfl) (Nat.le_of_ble_eq_true rfl) (by first | (simp only [go_sem, seval, reduceCtorEq, dropF_ch, dropF_cons, dropF_nil, cut, cond_true, cond_false, Int.natCast_zero, Int.natCast_add, Int.natCast_one, List.take_zero, List.filter_nil, List.map_nil, iv_nil]; done) | rfl | (simp only [go_sem, seval, reduceCtorEq, dropF_ch, dropF_cons, dropF_nil, cut, cond_true, cond_false, Int.natCast_zero, Int.natCast_add, Int.natCast_one, List.take_zero, List.filter_nil, List.map_nil, iv_nil]; rfl)) (by first | (simp only [go_sem, seval, reduceCtorEq, dropF_ch, dropF_cons, dropF_nil, cut, cond_true, cond_false, Int.natCast_zero, Int.natCast_add, Int.natCast_one, List.take_zero, List.filter_nil, List.map_nil, iv_nil]; done) | rfl | (simp only [go_sem, seval, reduceCtorEq, dropF_ch, dropF_cons, dropF_nil, cut, cond_true, cond_false, Int.natCast_zero, Int.natCast_add, Int.natCast_one, List.take_zero, List.filter_nil, List.map_nil, iv_nil]; rfl)) fun k hk => ?_
  unfold L0_spec_l08Keep
  have hfl := filter_len ls k (has keep)
  have hkl : (((ls.take k).filter (has keep)).map (dAt ls ds)).length = ((ls.take k).filter (has keep)).length := List.length_map ..
  by_cases hlt : k < ls.length
  · have d1 : (k : Int) < ls.length := by omega
    have d2 : (k : Int) < ds.length := by omega
    have g : ls[k]? = some ls[k] := List.getElem?_eq_getElem hlt
    have g2 : ds[k]? = some (dAt ls ds ls[k]) := by rw [dAt_at hn hlt, getD_of (by omega)]; exact List.getElem?_eq_getElem (by omega)
    simp (disch := omega) only [go_sem, seval, reduceCtorEq, d1, g]
    (refine ti_call (l05Find_d (xs := keep) (x := ls[k]) (by omega)) ?_ ?_ ?_; (focus (simp only [go_sem, seval, reduceCtorEq]; done)); (first | rfl | (focus (simp only [go_sem]; done))))
    by_cases hm : ls[k] ∈ keep
    · have hh : has keep ls[k] = true := has_true.2 hm
      have c : place keep ls[k] ≥ 0 := by
        have h0 : ¬ place keep ls[k] < 0 := fun e => place_neg.1 e hm
        omega
      have e := filter_yes (p := has keep) hlt hh
      simp (disch := omega) only [go_sem, seval, reduceCtorEq, c, d2, g2, hkl]
      (repeat (refine And.intro (by omega) ?_))
      (refine Next.drop [false, false, false, false, false, false, false, false, true, true, false, false, false, false, true, true, true, true, true, true, true, true, true, true, true, true, true, true, true, true, true, true, true, true, true, true, true, true, false] (by omega) (Nat.le_of_ble_eq_true rfl) ?_ ?_ <;> first | (simp only [go_sem, seval, reduceCtorEq, dropF_ch, dropF_cons, dropF_nil, cut, cond_true, cond_false, Int.natCast_zero, Int.natCast_add, Int.natCast_one, e, List.length_append, List.map_append, List.map_cons, List.map_nil]; done) | rfl | (simp only [go_sem, seval, reduceCtorEq, dropF_ch, dropF_cons, dropF_nil, cut, cond_true, cond_false, Int.natCast_zero, Int.natCast_add, Int.natCast_one, e, List.length_append, List.map_append, List.map_cons, List.map_nil]; rfl) | skip)
    · have hh : has keep ls[k] = false := has_false.2 hm
      have c : ¬ place keep ls[k] ≥ 0 := by have := place_neg.2 hm; omega
      have e := filter_no (p := has keep) hlt hh
      simp (disch := omega) only [go_sem, seval, reduceCtorEq, c]
      (refine Next.drop [false, false, false, false, false, false, false, false, true, true, false, false, false, false, true, true, true, true, true, true, true, true, true, true, true, true, true, true, true, true, true, true, true, true, true, true, true, true, false] (by omega) (Nat.le_of_ble_eq_true rfl) ?_ ?_ <;> first | (simp only [go_sem, seval, reduceCtorEq, dropF_ch, dropF_cons, dropF_nil, cut, cond_true, cond_false, Int.natCast_zero, Int.natCast_add, Int.natCast_one, e]; done) | rfl | (simp only [go_sem, seval, reduceCtorEq, dropF_ch, dropF_cons, dropF_nil, cut, cond_true, cond_false, Int.natCast_zero, Int.natCast_add, Int.natCast_one, e]; rfl) | skip)
  · have d1 : ¬ (k : Int) < ls.length := by omega
    obtain rfl : k = ls.length := by omega
    simp (disch := omega) only [go_sem, seval, reduceCtorEq, d1, List.take_length]
    (refine FnEnd.mk (Nat.le_of_ble_eq_true rfl) rfl (of_decide_eq_true rfl) ?_ ?_ <;> try simp only [go_sem, seval, reduceCtorEq])
/-! ### Tensors of one value -/
theorem l05Zero_d {kk pp nn : Int} {wd n : Nat} {ls ds : List Int} (hw : width ⟨kk, pp, nn⟩ = wd) (h1 : 1 ≤ wd ∧ wd ≤ 6) (hls : ls.length ≤ 1048576) (hds : ds.length ≤ 1048576) (hd : ∀ d ∈ ds, 1 ≤ d ∧ d ≤ 100) (hn : prodI ds = n) (hn2 : n ≤ 4096) :
    Does Try.prog 170 [ringA kk pp nn, .d (ints ls), .d (ints ds)] [] (ownT 0 ⟨ls, ds, repE (zeroE kk pp wd) n⟩) (stoT ⟨ls, ds, repE (zeroE kk pp wd) n⟩) := by
  have hz := zeroE_len kk pp wd
  have hmn : min (prodI ds) 4097 = (n : Int) := by omega
  (refine spec_of (by kernel_rfl) Try.func170 k_spec_l05Zero (fnOk (Nat.le_of_ble_eq_true rfl) ?_); unfold C_spec_l05Zero)
  (simp only [Nat.reduceSub, List.length_cons, List.length_nil, Nat.reduceAdd, ch_init1, ch_init2, ch_init3, ch_init4, ch_init5, ch_init6, ch_init7, ch_init8]; try simp only [ch_rep]); (simp only [go_sem, seval, reduceCtorEq, List.replicate])
  (refine ti_call (l05Ints_d (xs := ls) (by omega)) ?_ ?_ ?_; (focus (simp only [go_sem, seval, reduceCtorEq]; done)); (first | rfl | (focus (simp only [go_sem]; done))))
  simp only [go_sem, seval, reduceCtorEq]
  (refine ti_call (l05Ints_d (xs := ds) (by omega)) ?_ ?_ ?_; (focus (simp only [go_sem, seval, reduceCtorEq]; done)); (first | rfl | (focus (simp only [go_sem]; done))))
  simp only [go_sem, seval, reduceCtorEq]
  (refine ti_call (l05Product_d (ds := ds) (lim := 4096) (by omega) hd (by omega)) ?_ ?_ ?_; (focus (simp only [go_sem, seval, reduceCtorEq, hmn]; done)); (first | rfl | (focus (simp only [go_sem]; done))))
  simp only [go_sem, seval, reduceCtorEq, hmn]
  (refine wpN_lwk (Wk.nilS 4 2 1 _ _ _ rfl rfl) ?_; simp only [go_sem, seval, reduceCtorEq])
  have hr0 : repE (zeroE kk pp wd) 0 = [] := rfl
  refine wpN_lp (n) [false, false, false, false, false, false, false, false, false, false, false, false, false, false, false, false, true, true, true, true, true, true, true, true, true, true, false] (fun k => [(8, .d (.int ((n : Int) - k)))]) (fun k => [(4, [.own 2 0 ls.length, .own 3 0 ds.length, .own 5 0 (repE (zeroE kk pp wd) k).length]), (5, iv (repE (zeroE kk pp wd) k))]) (fun _ => by (simp only [go_sem, seval, reduceCtorEq, dropF_ch, dropF_cons, dropF_nil, cut, cond_true, cond_false]); first | done | rfl) (fun _ => by (simp only [go_sem, seval, reduceCtorEq, cut]); first | done | rfl) (Nat.le_of_ble_eq_true rfl) (by first | (simp only [go_sem, seval, reduceCtorEq, dropF_ch, dropF_cons, dropF_nil, cut, cond_true, cond_false, Int.natCast_zero, Int.natCast_add, Int.natCast_one, hr0, iv_nil, Int.sub_zero]; done) | rfl | (simp only [go_sem, seval, reduceCtorEq, dropF_ch, dropF_cons, dropF_nil, cut, cond_true, cond_false, Int.natCast_zero, Int.natCast_add, Int.natCast_one, hr0, iv_nil, Int.sub_zero]; rfl)) (by first | (simp only [go_sem, seval, reduceCtorEq, dropF_ch, dropF_cons, dropF_nil, cut, cond_true, cond_false, Int.natCast_zero, Int.natCast_add, Int.natCast_one, hr0, iv_nil, Int.sub_zero]; done) | rfl | (simp only [go_sem, seval, reduceCtorEq, dropF_ch, dropF_cons, dropF_nil, cut, cond_true, cond_false, Int.natCast_zero, Int.natCast_add, Int.natCast_one, hr0, iv_nil, Int.sub_zero]; rfl)) fun k hk => ?_
  unfold L0_spec_l05Zero
  have hrl := repE_len (zeroE kk pp wd) k
  have hkw : k * wd ≤ 4096 * 6 := Nat.mul_le_mul (by omega) h1.2
  rw [hz] at hrl
  by_cases hlt : k < n
  · have d1 : (n : Int) - k > 0 := by omega
    have e8 : (n : Int) - k - 1 = (n : Int) - (k + 1) := by omega
    simp (disch := omega) only [go_sem, seval, reduceCtorEq, d1]
    (refine gi_call (l02Zero_d (kk := kk) (pp := pp) (nn := nn) hw h1) ?_ ?_ ?_; (focus (simp only [go_sem, seval, reduceCtorEq]; done)); (first | rfl | (focus (simp only [go_sem]; done))))
    have htz : List.take wd (zeroE kk pp wd) = zeroE kk pp wd := List.take_of_length_le (by omega)
    have hle : (wd ≤ wd) = True := by simp
    simp (disch := omega) only [go_sem, seval, reduceCtorEq, hz, htz, hle, if_true]
    (repeat (refine And.intro (by omega) ?_))
    have hrn : repE (zeroE kk pp wd) (k + 1) = repE (zeroE kk pp wd) k ++ zeroE kk pp wd := rfl
    (refine Next.drop [false, false, false, false, false, false, false, false, false, false, false, false, false, false, false, false, true, true, true, true, true, true, true, true, true, true, false] (by omega) (Nat.le_of_ble_eq_true rfl) ?_ ?_ <;> first | (simp only [go_sem, seval, reduceCtorEq, dropF_ch, dropF_cons, dropF_nil, cut, cond_true, cond_false, Int.natCast_zero, Int.natCast_add, Int.natCast_one, hrn, e8, List.length_append, hz]; done) | rfl | (simp only [go_sem, seval, reduceCtorEq, dropF_ch, dropF_cons, dropF_nil, cut, cond_true, cond_false, Int.natCast_zero, Int.natCast_add, Int.natCast_one, hrn, e8, List.length_append, hz]; rfl) | skip)
  · have d1 : ¬ (n : Int) - k > 0 := by omega
    obtain rfl : k = n := by omega
    simp (disch := omega) only [go_sem, seval, reduceCtorEq, d1]
    (refine FnEnd.mk (Nat.le_of_ble_eq_true rfl) rfl (of_decide_eq_true rfl) ?_ ?_ <;> try simp only [go_sem, seval, reduceCtorEq])
theorem fillTensor_d {kk pp nn : Int} {wd n : Nat} {ls ds z : List Int} (hz : z.length = wd) (h1 : 1 ≤ wd ∧ wd ≤ 6) (hls : ls.length ≤ 1048576) (hds : ds.length ≤ 1048576) (hd : ∀ d ∈ ds, 1 ≤ d) (hn : prodI ds = n) (hn2 : n ≤ 4096) :
    Does Try.prog 129 [ringA kk pp nn, .d (ints ls), .d (ints ds), .d (ints z)] [] (ownT 0 ⟨ls, ds, repE z n⟩) (stoT ⟨ls, ds, repE z n⟩) := by
  (refine spec_of (by kernel_rfl) Try.func129 k_impl_fillTensor (fnOk (Nat.le_of_ble_eq_true rfl) ?_); unfold C_impl_fillTensor)
  (simp only [Nat.reduceSub, List.length_cons, List.length_nil, Nat.reduceAdd, ch_init1, ch_init2, ch_init3, ch_init4, ch_init5, ch_init6, ch_init7, ch_init8]; try simp only [ch_rep]); (simp only [go_sem, seval, reduceCtorEq, List.replicate])
  (refine ti_call (copyInts_d (xs := ls) (by omega)) ?_ ?_ ?_; (focus (simp only [go_sem, seval, reduceCtorEq]; done)); (first | rfl | (focus (simp only [go_sem]; done))))
  simp only [go_sem, seval, reduceCtorEq]
  (refine ti_call (copyInts_d (xs := ds) (by omega)) ?_ ?_ ?_; (focus (simp only [go_sem, seval, reduceCtorEq]; done)); (first | rfl | (focus (simp only [go_sem]; done))))
  simp only [go_sem, seval, reduceCtorEq]
  (refine ti_call (productOf_d (ds := ds) (by omega) hd (by omega)) ?_ ?_ ?_; (focus (simp only [go_sem, seval, reduceCtorEq]; done)); (first | rfl | (focus (simp only [go_sem]; done))))
  have hnw : n * wd ≤ 4096 * 6 := Nat.mul_le_mul hn2 h1.2
  have hm : ((n : Int) * (z.length : Int)) = ((n * wd : Nat) : Int) := by rw [hz, Int.natCast_mul]
  simp (disch := omega) only [go_sem, seval, reduceCtorEq, hn, hm]
  refine And.intro (by omega) ?_
  have hr0 : repE z 0 = [] := rfl
  refine wpN_lp (n) [false, false, false, false, false, false, false, false, false, false, false, false, false, false, false, false, false, false, false, false, false, false, false, true, false, true, true, true, true, true, true, true, true, true, true, false] (fun k => [(11, .d (.int k))]) (fun k => [(4, [.own 2 0 ls.length, .own 3 0 ds.length, .own 5 0 (repE z k).length]), (5, iv (repE z k))]) (fun _ => by (simp only [go_sem, seval, reduceCtorEq, dropF_ch, dropF_cons, dropF_nil, cut, cond_true, cond_false]); first | done | rfl) (fun _ => by (simp only [go_sem, seval, reduceCtorEq, cut]); first | done | rfl) (Nat.le_of_ble_eq_true rfl) (by first | (simp only [go_sem, seval, reduceCtorEq, dropF_ch, dropF_cons, dropF_nil, cut, cond_true, cond_false, Int.natCast_zero, Int.natCast_add, Int.natCast_one, hr0, iv_nil, List.length_nil]; done) | rfl | (simp only [go_sem, seval, reduceCtorEq, dropF_ch, dropF_cons, dropF_nil, cut, cond_true, cond_false, Int.natCast_zero, Int.natCast_add, Int.natCast_one, hr0, iv_nil, List.length_nil]; rfl)) (by first | (simp only [go_sem, seval, reduceCtorEq, dropF_ch, dropF_cons, dropF_nil, cut, cond_true, cond_false, Int.natCast_zero, Int.natCast_add, Int.natCast_one, hr0, iv_nil, List.length_nil]; done) | rfl | (simp only [go_sem, seval, reduceCtorEq, dropF_ch, dropF_cons, dropF_nil, cut, cond_true, cond_false, Int.natCast_zero, Int.natCast_add, Int.natCast_one, hr0, iv_nil, List.length_nil]; rfl)) fun k hk => ?_
  unfold L0_impl_fillTensor
  have hrl := repE_len z k
  have hkw : k * wd ≤ 4096 * 6 := Nat.mul_le_mul (by omega) h1.2
  rw [hz] at hrl
  by_cases hlt : k < n
  · have d1 : (k : Int) < n := by omega
    have hrn : repE z (k + 1) = repE z k ++ z := rfl
    simp (disch := omega) only [go_sem, seval, reduceCtorEq, d1]
    (repeat (refine And.intro (by omega) ?_))
    (refine Next.drop [false, false, false, false, false, false, false, false, false, false, false, false, false, false, false, false, false, false, false, false, false, false, false, true, false, true, true, true, true, true, true, true, true, true, true, false] (by omega) (Nat.le_of_ble_eq_true rfl) ?_ ?_ <;> first | (simp only [go_sem, seval, reduceCtorEq, dropF_ch, dropF_cons, dropF_nil, cut, cond_true, cond_false, Int.natCast_zero, Int.natCast_add, Int.natCast_one, hrn, List.length_append]; done) | rfl | (simp only [go_sem, seval, reduceCtorEq, dropF_ch, dropF_cons, dropF_nil, cut, cond_true, cond_false, Int.natCast_zero, Int.natCast_add, Int.natCast_one, hrn, List.length_append]; rfl) | skip)
  · have d1 : ¬ (k : Int) < n := by omega
    obtain rfl : k = n := by omega
    simp (disch := omega) only [go_sem, seval, reduceCtorEq, d1]
    (refine FnEnd.mk (Nat.le_of_ble_eq_true rfl) rfl (of_decide_eq_true rfl) ?_ ?_ <;> try simp only [go_sem, seval, reduceCtorEq])
/-! ### Strides, by the reference -/
theorem map_set {L : List Int} {f : Int → Int} {k : Nat} {v : Int} (hn : L.Nodup) (hk : k < L.length) : (L.map f).set k v = L.map fun x => if x = L[k] then v else f x := by
  refine List.ext_getElem (by simp) fun i h1 h2 => ?_
  have hi : i < L.length := by simpa using h2
  rw [List.getElem_set, List.getElem_map, List.getElem_map]
  by_cases e : k = i
  · subst e; simp
  · rw [if_neg e, if_neg (fun e2 => e (nodup_at hn hk hi e2.symm))]
theorem l08Steps_d {t : Ten} {L : List Int} (ha : axOk t.labels t.dims) (hp : prodI t.dims ≤ 4096) (hn : L.Nodup) (hL : L.length ≤ 1048576) :
    Does Try.prog 171 [tenA t, .d (ints L)] [] (.own 0 0 L.length) [some ⟨1, true, iv (L.map (strideL t.labels t.dims))⟩] := by
  have l1 := ha.1
  have l2 := ha.len
  have hdm := ha.dim
  generalize hls : t.labels = ls at *
  generalize hds : t.dims = ds at *
  have hstep : ∀ i, 1 ≤ prodI (ds.drop i) ∧ prodI (ds.drop i) ≤ 4096 := fun i => by
    have h1 := prodI_pos (ds.drop i) (fun d hd => (hdm d (List.mem_of_mem_drop hd)).1)
    have h2 := prodI_pos (ds.take i) (fun d hd => (hdm d (List.mem_of_mem_take hd)).1)
    have h3 := prodI_append (ds.take i) (ds.drop i)
    rw [List.take_append_drop] at h3
    have h4 : prodI (ds.drop i) ≤ prodI (ds.take i) * prodI (ds.drop i) := by
      have := Int.mul_le_mul_of_nonneg_right h2 (show 0 ≤ prodI (ds.drop i) by omega)
      omega
    omega
  (refine spec_of (by kernel_rfl) Try.func171 k_spec_l08Steps (fnOk (Nat.le_of_ble_eq_true rfl) ?_); unfold C_spec_l08Steps)
  (simp only [Nat.reduceSub, List.length_cons, List.length_nil, Nat.reduceAdd, ch_init1, ch_init2, ch_init3, ch_init4, ch_init5, ch_init6, ch_init7, ch_init8]; try simp only [ch_rep]); (simp only [go_sem, seval, reduceCtorEq, List.replicate])
  simp only [hls, hds]
  refine ⟨by omega, ?_⟩
  simp (disch := omega) only [go_sem, seval, reduceCtorEq, hls, hds]
  have h00 : L.map (strideL (ls.drop (ls.length - 0)) (ds.drop (ls.length - 0))) = List.replicate L.length 0 := by
    have : ls.drop (ls.length - 0) = [] := List.drop_eq_nil_of_le (by omega)
    rw [this]
    refine List.ext_getElem (by simp) fun i h1 h2 => ?_
    simp [strideL]
  have h01 : prodI (ds.drop (ls.length - 0)) = 1 := by
    have : ds.drop (ls.length - 0) = [] := List.drop_eq_nil_of_le (by omega)
    rw [this]; rfl
  refine wpN_lp (ls.length) [false, false, false, false, false, false, false, false, true, false, false, false, false, false, false, false, true, true, true, true, true, true, true, true, true, true, true, true, true, true, true, true, true, true, true, true, true, true, true, true, false] (fun k => [(6, .d (.int (prodI (ds.drop (ls.length - k))))), (7, .d (.int (ls.length - 1 - k)))]) (fun k => [(1, iv (L.map (strideL (ls.drop (ls.length - k)) (ds.drop (ls.length - k)))))]) (fun _ => by (simp only [go_sem, seval, reduceCtorEq, dropF_ch, dropF_cons, dropF_nil, cut, cond_true, cond_false]); first | done | rfl) (fun _ => by (simp only [go_sem, seval, reduceCtorEq, cut]); first | done | rfl) (Nat.le_of_ble_eq_true rfl) (by first | (simp only [go_sem, seval, reduceCtorEq, dropF_ch, dropF_cons, dropF_nil, cut, cond_true, cond_false, Int.natCast_zero, Int.natCast_add, Int.natCast_one, h00, h01, Int.sub_zero]; done) | rfl | (simp only [go_sem, seval, reduceCtorEq, dropF_ch, dropF_cons, dropF_nil, cut, cond_true, cond_false, Int.natCast_zero, Int.natCast_add, Int.natCast_one, h00, h01, Int.sub_zero]; rfl)) (by first | (simp only [go_sem, seval, reduceCtorEq, dropF_ch, dropF_cons, dropF_nil, cut, cond_true, cond_false, Int.natCast_zero, Int.natCast_add, Int.natCast_one, h00, h01, Int.sub_zero]; done) | rfl | (simp only [go_sem, seval, reduceCtorEq, dropF_ch, dropF_cons, dropF_nil, cut, cond_true, cond_false, Int.natCast_zero, Int.natCast_add, Int.natCast_one, h00, h01, Int.sub_zero]; rfl)) fun k hk => ?_
  unfold L0_spec_l08Steps
  by_cases hlt : k < ls.length
  · obtain ⟨i, hi⟩ : ∃ i, ls.length = k + 1 + i := ⟨ls.length - k - 1, by omega⟩
    have e7 : (ls.length : Int) - 1 - k = i := by omega
    have e8 : ls.length - k = i + 1 := by omega
    have c1' : (i : Int) ≥ 0 := by omega
    rw [e8]
    simp only [go_sem, seval, reduceCtorEq, e7, c1']
    have hil : i < ls.length := by omega
    have hid : i < ds.length := by omega
    have c2 : (i : Int) < ls.length := by omega
    have c3 : (i : Int) < ds.length := by omega
    have gl : ls[i]? = some ls[i] := List.getElem?_eq_getElem hil
    have gd : ds[i]? = some ds[i] := List.getElem?_eq_getElem hid
    have el : ls.drop i = ls[i] :: ls.drop (i + 1) := List.drop_eq_getElem_cons hil
    have ed : ds.drop i = ds[i] :: ds.drop (i + 1) := List.drop_eq_getElem_cons hid
    have hst : ∀ x, strideL (ls.drop i) (ds.drop i) x = if x = ls[i] then prodI (ds.drop (i + 1)) else strideL (ls.drop (i + 1)) (ds.drop (i + 1)) x := fun x => by rw [el, ed, strideL]
    have hpr : prodI (ds.drop (i + 1)) * ds[i] = prodI (ds.drop i) := by rw [ed, prodI_cons, Int.mul_comm]
    have hsi := hstep i
    have e9 : ls.length - (k + 1) = i := by omega
    have e10 : (ls.length : Int) - 1 - (↑k + 1) = i - 1 := by omega
    simp (disch := omega) only [go_sem, seval, reduceCtorEq, c2, gl]
    (refine ti_call (l05Find_d (xs := L) (x := ls[i]) (by omega)) ?_ ?_ ?_; (focus (simp only [go_sem, seval, reduceCtorEq]; done)); (first | rfl | (focus (simp only [go_sem]; done))))
    by_cases hm : ls[i] ∈ L
    · obtain ⟨q, hq, e1, e2, _⟩ := place_mem hm
      have c : (q : Int) ≥ 0 := by omega
      have c4 : (q : Int) < L.length := by omega
      have hms : (L.map (strideL (ls.drop (i + 1)) (ds.drop (i + 1)))).take q ++ [prodI (ds.drop (i + 1))] ++ (L.map (strideL (ls.drop (i + 1)) (ds.drop (i + 1)))).drop (q + 1) = L.map (strideL (ls.drop i) (ds.drop i)) := by
        rw [put_set (by simpa using hq), map_set hn hq, e2]
        exact List.map_congr_left fun x _ => (hst x).symm
      have hml : (L.map (strideL (ls.drop (i + 1)) (ds.drop (i + 1)))).length = L.length := List.length_map ..
      simp (disch := omega) only [go_sem, seval, reduceCtorEq, e1, c, c4]
      refine ⟨by omega, ?_⟩
      simp (disch := omega) only [go_sem, seval, reduceCtorEq, c3, gd, hpr]
      (refine Next.drop [false, false, false, false, false, false, false, false, true, false, false, false, false, false, false, false, true, true, true, true, true, true, true, true, true, true, true, true, true, true, true, true, true, true, true, true, true, true, true, true, false] (by omega) (Nat.le_of_ble_eq_true rfl) ?_ ?_ <;> first | (simp only [go_sem, seval, reduceCtorEq, dropF_ch, dropF_cons, dropF_nil, cut, cond_true, cond_false, Int.natCast_zero, Int.natCast_add, Int.natCast_one, e9, e10, hms]; done) | rfl | (simp only [go_sem, seval, reduceCtorEq, dropF_ch, dropF_cons, dropF_nil, cut, cond_true, cond_false, Int.natCast_zero, Int.natCast_add, Int.natCast_one, e9, e10, hms]; rfl) | skip)
    · have c : ¬ place L ls[i] ≥ 0 := by have := place_neg.2 hm; omega
      have hms : L.map (strideL (ls.drop (i + 1)) (ds.drop (i + 1))) = L.map (strideL (ls.drop i) (ds.drop i)) := List.map_congr_left fun x hx => by rw [hst x, if_neg (show ¬ x = ls[i] from fun e => hm (by rw [← e]; exact hx))]
      simp (disch := omega) only [go_sem, seval, reduceCtorEq, c, c3, gd, hpr]
      (refine Next.drop [false, false, false, false, false, false, false, false, true, false, false, false, false, false, false, false, true, true, true, true, true, true, true, true, true, true, true, true, true, true, true, true, true, true, true, true, true, true, true, true, false] (by omega) (Nat.le_of_ble_eq_true rfl) ?_ ?_ <;> first | (simp only [go_sem, seval, reduceCtorEq, dropF_ch, dropF_cons, dropF_nil, cut, cond_true, cond_false, Int.natCast_zero, Int.natCast_add, Int.natCast_one, e9, e10, hms]; done) | rfl | (simp only [go_sem, seval, reduceCtorEq, dropF_ch, dropF_cons, dropF_nil, cut, cond_true, cond_false, Int.natCast_zero, Int.natCast_add, Int.natCast_one, e9, e10, hms]; rfl) | skip)
  · have hk' : k = ls.length := by omega
    have c1 : ¬ (ls.length : Int) - 1 - k ≥ 0 := by omega
    have e0 : ls.length - k = 0 := by omega
    have h02 : ls.drop 0 = ls := rfl
    simp (disch := omega) only [go_sem, seval, reduceCtorEq, c1, e0]
    (refine FnEnd.mk (Nat.le_of_ble_eq_true rfl) rfl (of_decide_eq_true rfl) ?_ ?_ <;> try simp only [go_sem, seval, reduceCtorEq])
end Go.Proofs.Ytcgnehacihjnkaa
