/-
 Contracts: the state of an order, by the program. No condition.
-/
import Derived.Test.YtmkdphmjgfbjaaaMgSchedulesA
import Derived.Test.YtmkdphmjgfbjaaaOrdL
set_option linter.unusedSimpArgs false
set_option linter.unusedVariables false
namespace Go.Proofs.Ytmkdphmjgfbjaaa
open Go.RowKit Go.Lift Plain
set_option maxRecDepth 100000
def osP (D os : List Int) (s : Osd) : AV := .rptr (osD D (ints os) (lvS s) (.int s.all.length)) 0
def osR (D os : List Int) (s : Osd) : Option Root := some ⟨0, false, osB D (.d (ints os)) (.d (lvS s)) (.d (.int s.all.length))⟩
theorem orderState_place_d {D os : List Int} {s : Osd} {m : Nat} {x : Int} (hD : D.length = 100) (h : OsOk s m) (hm : m ≤ 1000) :
  Does Try.prog 33 [osP D os s, .d (.int x)] [] (.d (.int (place (natI s.nums) x))) [] := by
 have hnl := nums_len h
 (refine spec_of (by kernel_rfl) Try.func33 k_impl_orderState_place (fnOk (nb rfl) ?_); unfold C_impl_orderState_place)
 simp only [osP, lvS]
 (simp only [Nat.reduceSub, List.length_cons, List.length_nil, Nat.reduceAdd, ch_init1, ch_init2, ch_init3, ch_init4, ch_init5, ch_init6, ch_init7, ch_init8]; try simp only [ch_rep]); (simp only [go_sem, seval, reduceCtorEq, List.replicate])
 simp (disch := omega) only [go_sem, seval, reduceCtorEq]
 refine wpN_lpI (s.nums.length) (mkB 23 8380528) (fun k => x ∉ natI (s.nums.take k)) (fun k => [(12, .d (.int k))]) (fun k => []) (hi := by simp [natI]) (h1 := by first | (simp only [go_sem, seval, reduceCtorEq, nz, na, n1]; first | done | rfl) | rfl) (h2 := by first | (simp only [go_sem, seval, reduceCtorEq, nz, na, n1]; first | done | rfl) | rfl) (hr := fun k hk hi => ?_)
 unfold L0_impl_orderState_place
 by_cases hlt : k < s.nums.length
 ·have d1 : (k : Int) < s.nums.length := by omega
  have g := lvD_cut (f := s.lab) hlt
  simp (disch := omega) only [go_sem, seval, reduceCtorEq, d1, g]
  refine ⟨by omega, ?_⟩
  by_cases hx : (s.nums[k] : Int) = x
  ·have c : ((s.nums[k] : Int) == x) = true := by simp [hx]
   have hp : place (natI s.nums) x = k := by
    have hk' : k < (natI s.nums).length := by rw [natI_len]; exact hlt
    have := place_at hk' (by rw [natI_get hlt]; rw [show List.take k (natI s.nums) = natI (s.nums.take k) by simp [natI]]; rw [hx]; exact hi)
    rwa [natI_get hlt, hx] at this
   simp (disch := omega) only [go_sem, seval, reduceCtorEq, c, hp]
   (refine FnEnd.mk (nb rfl) rfl (of_decide_eq_true rfl) ?_ ?_ <;> try simp only [go_sem, seval, reduceCtorEq])
  ·have c : ((s.nums[k] : Int) == x) = false := by simp [hx]
   simp (disch := omega) only [go_sem, seval, reduceCtorEq, c]
   have hi' : x ∉ natI (s.nums.take (k + 1)) := by
    rw [take_ss hlt]
    simp only [natI, List.map_append, List.map_cons, List.map_nil, List.mem_append, List.mem_singleton]
    exact fun e => e.elim hi (fun e => hx e.symm)
   (refine NextI.drop (mkB 23 8380528) (by omega) (hi') (h1 := ?_) (h2 := ?_) <;> first | (simp only [go_sem, seval, reduceCtorEq, nz, na, n1]; first | done | rfl) | rfl | skip)
 ·have d1 : ¬ (k : Int) < s.nums.length := by omega
  have hp : place (natI s.nums) x = -1 := place_no (by rw [List.take_of_length_le (by omega)] at hi; exact hi)
  simp (disch := omega) only [go_sem, seval, reduceCtorEq, d1, hp]
  (refine FnEnd.mk (nb rfl) rfl (of_decide_eq_true rfl) ?_ ?_ <;> try simp only [go_sem, seval, reduceCtorEq])
theorem orderState_resultLabels_o {D os : List Int} {s : Osd} {m i j : Nat} (hD : D.length = 100) (h : OsOk s m) (hm : m ≤ 1000) (ho : os.length ≤ 1048576) (hi : i < s.nums.length) (hj : j < s.nums.length) :
  Does Try.prog 49 [osP D os s, .d (.int i), .d (.int j)] [] (.own 0 0 (s.res os s.nums[i] s.nums[j]).length) [some ⟨1, true, iv (s.res os s.nums[i] s.nums[j])⟩] := by
 have hnl := nums_len h
 have li : (i : Int) < s.nums.length := by omega
 have lj : (j : Int) < s.nums.length := by omega
 have gi := lvD_get1 (f := s.lab) hi
 have gj := lvD_get1 (f := s.lab) hj
 have la := h.len s.nums[i]
 have lb := h.len s.nums[j]
 obtain ⟨hjn, hjb, hjl⟩ := h.join s.nums[i] s.nums[j]
 (refine spec_of (by kernel_rfl) Try.func49 k_impl_orderState_resultLabels (fnOk (nb rfl) ?_); unfold C_impl_orderState_resultLabels)
 simp only [osP, lvS]
 (simp only [Nat.reduceSub, List.length_cons, List.length_nil, Nat.reduceAdd, ch_init1, ch_init2, ch_init3, ch_init4, ch_init5, ch_init6, ch_init7, ch_init8]; try simp only [ch_rep]); (simp only [go_sem, seval, reduceCtorEq, List.replicate])
 simp (disch := omega) only [go_sem, seval, reduceCtorEq, li, lj, gi, gj]
 (refine gi_call (joinLabels_d (a := s.lab s.nums[i]) (b := s.lab s.nums[j]) (by omega) (by omega)) ?_ ?_ ?_; (focus (simp only [go_sem, seval, reduceCtorEq]; done)); (first | rfl | (focus (simp only [go_sem]; done))))
 simp only [go_sem, seval, reduceCtorEq]
 generalize hJ : joinL (s.lab s.nums[i]) (s.lab s.nums[j]) = J at *
 have hres : s.res os s.nums[i] s.nums[j] = J.filter (has (s.keep os s.nums[i] s.nums[j])) := by rw [Osd.res, hJ]
 rw [hres]
 (refine wpN_lwk (Wk.nilE 7 1 _ _ rfl) ?_; simp only [go_sem, seval, reduceCtorEq])
 refine wpN_lp (J.length) (mkB 73 4722366482865350254080) (fun k => [(31, .d (.int k)), (7, .own 1 0 ((J.take k).filter (has (s.keep os s.nums[i] s.nums[j]))).length)]) (fun k => [(1, iv ((J.take k).filter (has (s.keep os s.nums[i] s.nums[j]))))]) (h1 := by first | (simp only [go_sem, seval, reduceCtorEq, nz, na, n1, List.take_zero, List.filter_nil, iv_nil]; first | done | rfl) | rfl) (h2 := by first | (simp only [go_sem, seval, reduceCtorEq, nz, na, n1, List.take_zero, List.filter_nil, iv_nil]; first | done | rfl) | rfl) (hr := fun k hk => ?_)
 unfold L1_impl_orderState_resultLabels
 have hfl := filter_len J k (has (s.keep os s.nums[i] s.nums[j]))
 by_cases hlt : k < J.length
 ·have d1 : (k : Int) < J.length := by omega
  have g : J[k]? = some J[k] := List.getElem?_eq_getElem hlt
  simp (disch := omega) only [go_sem, seval, reduceCtorEq, d1, g]
  (refine ti_call (hasInt_d (xs := os) (x := J[k]) (by omega)) ?_ ?_ ?_; (focus (simp only [go_sem, seval, reduceCtorEq]; done)); (first | rfl | (focus (simp only [go_sem]; done))))
  simp (disch := omega) only [go_sem, seval, reduceCtorEq]
  refine wpN_lp (s.nums.length) (mkB 73 73786835557349857280) (fun q => [(46, .d (.int q)), (10, .d (.bool (keptQ s os s.nums[i] s.nums[j] J[k] q)))]) (fun q => []) (h1 := by first | (simp only [go_sem, seval, reduceCtorEq, nz, na, n1, keptQ_zero]; first | done | rfl) | rfl) (h2 := by first | (simp only [go_sem, seval, reduceCtorEq, nz, na, n1, keptQ_zero]; first | done | rfl) | rfl) (hr := fun q hq => ?_)
  unfold L0_impl_orderState_resultLabels
  by_cases hltq : q < s.nums.length
  ·have d2 : (q : Int) < s.nums.length := by omega
   have g2 := lvD_cut (f := s.lab) hltq
   have hop := off_place (nums_nodup s) hi hj hltq
   have lq := h.len s.nums[q]
   simp (disch := omega) only [go_sem, seval, reduceCtorEq, d2, g2]
   refine ⟨by omega, ?_⟩
   by_cases h1 : q = i
   ·have e1 : (q != i) = false := by simp [h1]
    have c1 := natb_ne q i
    rw [e1] at c1
    have hn := keptQ_no (os := os) (a := s.nums[i]) (b := s.nums[j]) (l := J[k]) hltq (by rw [hop, e1]; rfl)
    simp (disch := omega) only [go_sem, seval, reduceCtorEq, c1]
    (refine Next.drop (mkB 73 73786835557349857280) (by omega) (h1 := ?_) (h2 := ?_) <;> first | (simp only [go_sem, seval, reduceCtorEq, nz, na, n1, hn]; first | done | rfl) | rfl | skip)
   ·have e1 : (q != i) = true := by simp [h1]
    have c1 := natb_ne q i
    rw [e1] at c1
    by_cases h2 : q = j
    ·have e2 : (q != j) = false := by simp [h2]
     have c2 := natb_ne q j
     rw [e2] at c2
     have hn := keptQ_no (os := os) (a := s.nums[i]) (b := s.nums[j]) (l := J[k]) hltq (by rw [hop, e1, e2]; rfl)
     simp (disch := omega) only [go_sem, seval, reduceCtorEq, c1, c2]
     (refine Next.drop (mkB 73 73786835557349857280) (by omega) (h1 := ?_) (h2 := ?_) <;> first | (simp only [go_sem, seval, reduceCtorEq, nz, na, n1, hn]; first | done | rfl) | rfl | skip)
    ·have e2 : (q != j) = true := by simp [h2]
     have c2 := natb_ne q j
     rw [e2] at c2
     simp (disch := omega) only [go_sem, seval, reduceCtorEq, c1, c2]
     (refine ti_call (hasInt_d (xs := s.lab s.nums[q]) (x := J[k]) (by omega)) ?_ ?_ ?_; (focus (simp only [go_sem, seval, reduceCtorEq]; done)); (first | rfl | (focus (simp only [go_sem]; done))))
     cases e3 : has (s.lab s.nums[q]) J[k]
     ·have hn := keptQ_no (os := os) (a := s.nums[i]) (b := s.nums[j]) (l := J[k]) hltq (by rw [e3, Bool.and_false])
      simp (disch := omega) only [go_sem, seval, reduceCtorEq, e3]
      (refine Next.drop (mkB 73 73786835557349857280) (by omega) (h1 := ?_) (h2 := ?_) <;> first | (simp only [go_sem, seval, reduceCtorEq, nz, na, n1, hn]; first | done | rfl) | rfl | skip)
     ·have hn := keptQ_yes (os := os) (a := s.nums[i]) (b := s.nums[j]) (l := J[k]) hltq (by rw [hop, e1, e2, e3]; rfl)
      simp (disch := omega) only [go_sem, seval, reduceCtorEq, e3]
      (refine Next.drop (mkB 73 73786835557349857280) (by omega) (h1 := ?_) (h2 := ?_) <;> first | (simp only [go_sem, seval, reduceCtorEq, nz, na, n1, hn]; first | done | rfl) | rfl | skip)
  ·have d2 : ¬ (q : Int) < s.nums.length := by omega
   have hall := keptQ_all (os := os) (a := s.nums[i]) (b := s.nums[j]) (l := J[k]) (show s.nums.length ≤ q by omega)
   simp (disch := omega) only [go_sem, seval, reduceCtorEq, d2, hall]
   cases hh : has (s.keep os s.nums[i] s.nums[j]) J[k]
   ·have e := filter_no (p := has (s.keep os s.nums[i] s.nums[j])) hlt hh
    simp (disch := omega) only [go_sem, seval, reduceCtorEq, hh]
    (refine Next.drop (mkB 73 4722366482865350254080) (by omega) (h1 := ?_) (h2 := ?_) <;> first | (simp only [go_sem, seval, reduceCtorEq, nz, na, n1, e]; first | done | rfl) | rfl | skip)
   ·have e := filter_yes (p := has (s.keep os s.nums[i] s.nums[j])) hlt hh
    simp (disch := omega) only [go_sem, seval, reduceCtorEq, hh]
    (repeat (refine And.intro (by omega) ?_))
    (refine Next.drop (mkB 73 4722366482865350254080) (by omega) (h1 := ?_) (h2 := ?_) <;> first | (simp only [go_sem, seval, reduceCtorEq, nz, na, n1, e, List.length_append]; first | done | rfl) | rfl | skip)
 ·have d1 : ¬ (k : Int) < J.length := by omega
  obtain rfl : k = J.length := by omega
  simp (disch := omega) only [go_sem, seval, reduceCtorEq, d1, List.take_length]
  (refine FnEnd.mk (nb rfl) rfl (of_decide_eq_true rfl) ?_ ?_ <;> try simp only [go_sem, seval, reduceCtorEq])
theorem orderState_contract_d {D os : List Int} {s : Osd} {m i j : Nat} (hD : D.length = 100) (h : OsOk s m) (hm : m ≤ 1000) (ho : os.length ≤ 1048576) (hi : i < s.nums.length) (hj : j < s.nums.length) :
  Does Try.prog 36 [.ptr 0 0, .d (.int i), .d (.int j)] [osR D os s] (.agg [.d (.int s.nums[i]), .d (.int s.nums[j])]) [osR D os (s.step os s.nums[i] s.nums[j])] := by
 have hnl := nums_len h
 have hall := h.n
 have li : (i : Int) < s.nums.length := by omega
 have lj : (j : Int) < s.nums.length := by omega
 have gi := lvD_get0 (f := s.lab) hi
 have gj := lvD_get0 (f := s.lab) hj
 (refine spec_of (by kernel_rfl) Try.func36 k_impl_orderState_contract (fnOk (nb rfl) ?_); unfold C_impl_orderState_contract)
 simp only [osR, lvS]
 (simp only [Nat.reduceSub, List.length_cons, List.length_nil, Nat.reduceAdd, ch_init1, ch_init2, ch_init3, ch_init4, ch_init5, ch_init6, ch_init7, ch_init8]; try simp only [ch_rep]); (simp only [go_sem, seval, reduceCtorEq, List.replicate])
 simp (disch := omega) only [go_sem, seval, reduceCtorEq, li, lj, gi, gj]
 (refine gi_call (orderState_resultLabels_o (D := D) (os := os) (i := i) (j := j) hD h hm ho hi hj) ?_ ?_ ?_; (focus (simp only [go_sem, seval, reduceCtorEq, osP, lvS]; done)); (first | rfl | (focus (simp only [go_sem]; done))))
 simp (disch := omega) only [go_sem, seval, reduceCtorEq]
 (refine wpN_lwk (Wk.nilE 9 2 _ _ rfl) ?_; simp only [go_sem, seval, reduceCtorEq])
 refine wpN_lp (s.nums.length) (mkB 76 2305825417027652608) (fun k => [(43, .d (.int k)), (9, .own 5 0 ((s.nums.take k).filter (Osd.off s.nums[i] s.nums[j])).length)]) (fun k => [(5, lvA s.lab ((s.nums.take k).filter (Osd.off s.nums[i] s.nums[j])))]) (h1 := by first | (simp only [go_sem, seval, reduceCtorEq, nz, na, n1, List.take_zero, List.filter_nil, lvA_nil]; first | done | rfl) | rfl) (h2 := by first | (simp only [go_sem, seval, reduceCtorEq, nz, na, n1, List.take_zero, List.filter_nil, lvA_nil]; first | done | rfl) | rfl) (hr := fun k hk => ?_)
 unfold L0_impl_orderState_contract
 have hfl := filter_len s.nums k (Osd.off s.nums[i] s.nums[j])
 by_cases hlt : k < s.nums.length
 ·have d1 : (k : Int) < s.nums.length := by omega
  have g := lvD_cut (f := s.lab) hlt
  have hop := off_place (nums_nodup s) hi hj hlt
  simp (disch := omega) only [go_sem, seval, reduceCtorEq, d1, g]
  refine ⟨by omega, ?_⟩
  by_cases h1 : k = i
  ·have e1 : (k != i) = false := by simp [h1]
   have c1 := natb_ne k i
   rw [e1] at c1
   have e := filter_no (p := Osd.off s.nums[i] s.nums[j]) hlt (by rw [hop, e1]; rfl)
   simp (disch := omega) only [go_sem, seval, reduceCtorEq, c1]
   (refine Next.drop (mkB 76 2305825417027652608) (by omega) (h1 := ?_) (h2 := ?_) <;> first | (simp only [go_sem, seval, reduceCtorEq, nz, na, n1, e]; first | done | rfl) | rfl | skip)
  ·have e1 : (k != i) = true := by simp [h1]
   have c1 := natb_ne k i
   rw [e1] at c1
   by_cases h2 : k = j
   ·have e2 : (k != j) = false := by simp [h2]
    have c2 := natb_ne k j
    rw [e2] at c2
    have e := filter_no (p := Osd.off s.nums[i] s.nums[j]) hlt (by rw [hop, e1, e2]; rfl)
    simp (disch := omega) only [go_sem, seval, reduceCtorEq, c1, c2]
    (refine Next.drop (mkB 76 2305825417027652608) (by omega) (h1 := ?_) (h2 := ?_) <;> first | (simp only [go_sem, seval, reduceCtorEq, nz, na, n1, e]; first | done | rfl) | rfl | skip)
   ·have e2 : (k != j) = true := by simp [h2]
    have c2 := natb_ne k j
    rw [e2] at c2
    have e := filter_yes (p := Osd.off s.nums[i] s.nums[j]) hlt (by rw [hop, e1, e2]; rfl)
    simp (disch := omega) only [go_sem, seval, reduceCtorEq, c1, c2]
    (repeat (refine And.intro (by omega) ?_))
    (refine Next.drop (mkB 76 2305825417027652608) (by omega) (h1 := ?_) (h2 := ?_) <;> first | (simp only [go_sem, seval, reduceCtorEq, nz, na, n1, e, List.length_append]; first | done | rfl) | rfl | skip)
 ·have d1 : ¬ (k : Int) < s.nums.length := by omega
  obtain rfl : k = s.nums.length := by omega
  simp (disch := omega) only [go_sem, seval, reduceCtorEq, d1, List.take_length]
  have hfl2 := List.length_filter_le (Osd.off s.nums[i] s.nums[j]) s.nums
  refine ⟨by omega, ?_⟩
  have hns := nums_step (os := os) (a := s.nums[i]) (b := s.nums[j]) h
  have hrow : lvA s.lab (s.nums.filter (Osd.off s.nums[i] s.nums[j])) ++ [.d (.int s.all.length), .d (.sl (s.res os s.nums[i] s.nums[j]).length (dv (s.res os s.nums[i] s.nums[j])))] = lvA (s.step os s.nums[i] s.nums[j]).lab (s.step os s.nums[i] s.nums[j]).nums := by
   rw [hns, lvA_app, lvA_congr (f := (s.step os s.nums[i] s.nums[j]).lab) (g := s.lab) (fun q hq => lab_step h (by have := nums_mem.1 (List.mem_filter.1 hq).1; omega)), hall]
   simp only [lvA, List.flatMap_cons, List.flatMap_nil, List.append_nil, lab_step_new h, ints]
  have hlen : (s.nums.filter (Osd.off s.nums[i] s.nums[j])).length + 1 = (s.step os s.nums[i] s.nums[j]).nums.length := by rw [hns]; simp
  have hal : (s.all.length : Int) + 1 = ((s.step os s.nums[i] s.nums[j]).all.length : Int) := by simp [Osd.step]
  (refine FnEnd.wk (Wk.freeze 3 (nb rfl) rfl (cellsD_iv) rfl rfl) ?_); (simp only [go_sem, seval, reduceCtorEq, hrow, hlen, hal])
  generalize s.step os s.nums[i] s.nums[j] = s' at *
  have htk : List.take (s'.nums.length * 2) (lvD s'.lab s'.nums) = lvD s'.lab s'.nums := List.take_of_length_le (by rw [lvD_len]; exact Nat.le_refl _)
  have htd : List.take s.nums.length s.nums = s.nums := List.take_length
  (refine FnEnd.wk (Wk.freeze 5 (nb rfl) rfl (cellsD_lvA) rfl rfl) ?_); (simp only [go_sem, seval, reduceCtorEq, htk])
  (refine FnEnd.mk (nb rfl) rfl (of_decide_eq_true rfl) ?_ ?_ <;> try simp only [go_sem, seval, reduceCtorEq])
theorem orderState_follow_yes {D os : List Int} {s : Osd} {m : Nat} {a b : Int} (hD : D.length = 100) (h : OsOk s m) (hm : m ≤ 1000) (ho : os.length ≤ 1048576) (hf : followB s a b = true) :
  Does Try.prog 32 [.ptr 0 0, .agg [.d (.int a), .d (.int b)]] [osR D os s] (.d (.bool true)) [osR D os (s.step os a.toNat b.toNat)] := by
 obtain ⟨x, y, rfl, rfl, hx, hy, hxy⟩ := followB_nat hf
 have hnl := nums_len h
 obtain ⟨i, hi, hix⟩ := List.mem_iff_getElem.1 hx
 obtain ⟨j, hj, hjy⟩ := List.mem_iff_getElem.1 hy
 have hpl : ∀ (q : Nat) (hq : q < s.nums.length), place (natI s.nums) s.nums[q] = q := fun q hq => by
  have hq' : q < (natI s.nums).length := by rw [natI_len]; exact hq
  have := place_at hq' (fresh_of (natI_nodup (nums_nodup s)) hq')
  rwa [natI_get hq] at this
 have pi := hpl i hi
 have pj := hpl j hj
 rw [hix] at pi
 rw [hjy] at pj
 have c1 : ¬ (i : Int) < 0 := by omega
 have c2 : ¬ (j : Int) < 0 := by omega
 have c3 : ¬ (x : Int) ≥ y := by omega
 subst hix hjy
 simp only [Int.toNat_natCast]
 (refine spec_of (by kernel_rfl) Try.func32 k_impl_orderState_follow (fnOk (nb rfl) ?_); unfold C_impl_orderState_follow)
 simp only [osR, lvS]
 (simp only [Nat.reduceSub, List.length_cons, List.length_nil, Nat.reduceAdd, ch_init1, ch_init2, ch_init3, ch_init4, ch_init5, ch_init6, ch_init7, ch_init8]; try simp only [ch_rep]); (simp only [go_sem, seval, reduceCtorEq, List.replicate])
 (refine gi_call (orderState_place_d (D := D) (os := os) (s := s) (x := s.nums[i]) hD h hm) ?_ ?_ ?_; (focus (simp only [go_sem, seval, reduceCtorEq, osP, lvS]; done)); (first | rfl | (focus (simp only [go_sem]; done))))
 simp only [go_sem, seval, reduceCtorEq, pi]
 (refine ti_call (orderState_place_d (D := D) (os := os) (s := s) (x := s.nums[j]) hD h hm) ?_ ?_ ?_; (focus (simp only [go_sem, seval, reduceCtorEq, osP, lvS]; done)); (first | rfl | (focus (simp only [go_sem]; done))))
 simp only [go_sem, seval, reduceCtorEq, pj, c1, c2, c3]
 (refine ti_callcg [0] [] false (of_decide_eq_true rfl) ?_ _ ?_ (orderState_contract_d (D := D) (os := os) (s := s) hD h hm ho hi hj) ?_ ?_; (focus (simp only [go_sem, seval, reduceCtorEq, osR, lvS]; done)); (focus (simp only [go_sem, seval, reduceCtorEq, osR, lvS]; done)); (focus (first | rfl | (simp only [go_sem, seval, reduceCtorEq, osR, lvS]; done))))
 simp only [go_sem, seval, reduceCtorEq, osR, lvS]
 (refine FnEnd.mk (nb rfl) rfl (of_decide_eq_true rfl) ?_ ?_ <;> try simp only [go_sem, seval, reduceCtorEq])
theorem orderState_follow_no {D os : List Int} {s : Osd} {m : Nat} {a b : Int} (hD : D.length = 100) (h : OsOk s m) (hm : m ≤ 1000) (ho : os.length ≤ 1048576) (hf : followB s a b = false) :
  Does Try.prog 32 [.ptr 0 0, .agg [.d (.int a), .d (.int b)]] [osR D os s] (.d (.bool false)) [osR D os s] := by
 have hnl := nums_len h
 (refine spec_of (by kernel_rfl) Try.func32 k_impl_orderState_follow (fnOk (nb rfl) ?_); unfold C_impl_orderState_follow)
 simp only [osR, lvS]
 (simp only [Nat.reduceSub, List.length_cons, List.length_nil, Nat.reduceAdd, ch_init1, ch_init2, ch_init3, ch_init4, ch_init5, ch_init6, ch_init7, ch_init8]; try simp only [ch_rep]); (simp only [go_sem, seval, reduceCtorEq, List.replicate])
 (refine gi_call (orderState_place_d (D := D) (os := os) (s := s) (x := a) hD h hm) ?_ ?_ ?_; (focus (simp only [go_sem, seval, reduceCtorEq, osP, lvS]; done)); (first | rfl | (focus (simp only [go_sem]; done))))
 simp only [go_sem, seval, reduceCtorEq]
 (refine ti_call (orderState_place_d (D := D) (os := os) (s := s) (x := b) hD h hm) ?_ ?_ ?_; (focus (simp only [go_sem, seval, reduceCtorEq, osP, lvS]; done)); (first | rfl | (focus (simp only [go_sem]; done))))
 by_cases ha : a ∈ natI s.nums
 rotate_left
 ·have c1 : place (natI s.nums) a < 0 := place_neg.2 ha
  simp only [go_sem, seval, reduceCtorEq, c1]
  (refine FnEnd.mk (nb rfl) rfl (of_decide_eq_true rfl) ?_ ?_ <;> try simp only [go_sem, seval, reduceCtorEq])
 have c1 : ¬ place (natI s.nums) a < 0 := fun e => place_neg.1 e ha
 by_cases hb : b ∈ natI s.nums
 rotate_left
 ·have c2 : place (natI s.nums) b < 0 := place_neg.2 hb
  simp only [go_sem, seval, reduceCtorEq, c1, c2]
  (refine FnEnd.mk (nb rfl) rfl (of_decide_eq_true rfl) ?_ ?_ <;> try simp only [go_sem, seval, reduceCtorEq])
 have c2 : ¬ place (natI s.nums) b < 0 := fun e => place_neg.1 e hb
 have c3 : a ≥ b := by
  by_cases e : a < b
  ·rw [followB, decide_eq_true ⟨ha, hb, e⟩] at hf; cases hf
  ·omega
 simp only [go_sem, seval, reduceCtorEq, c1, c2, c3]
 (refine FnEnd.mk (nb rfl) rfl (of_decide_eq_true rfl) ?_ ?_ <;> try simp only [go_sem, seval, reduceCtorEq])
end Go.Proofs.Ytmkdphmjgfbjaaa
