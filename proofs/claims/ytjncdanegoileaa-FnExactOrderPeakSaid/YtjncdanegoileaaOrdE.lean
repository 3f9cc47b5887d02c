/-
  Contracts: peaks of orders. No condition.
-/
import Derived.Test.YtjncdanegoileaaOrdD
namespace Go.Proofs.Ytjncdanegoileaa
open Go.RowKit Go.Lift Plain
set_option linter.unusedSimpArgs false
set_option linter.unusedVariables false
set_option maxRecDepth 100000

/-- The greatest size. -/
def pk (T : List Int) (L : List (List Int)) : Int := L.foldl (fun p l => max p (capP T l)) 1
theorem pk_snoc (T : List Int) (L : List (List Int)) (l : List Int) : pk T (L ++ [l]) = max (pk T L) (capP T l) := by rw [pk, List.foldl_append]; rfl
theorem pk_next {T : List Int} {L : List (List Int)} {k : Nat} (h : k < L.length) : pk T (L.take (k + 1)) = max (pk T (L.take k)) (capP T L[k]) := by rw [take_ss h, pk_snoc]
noncomputable def orderPeak (N : Net) (n : Nat) (F : List Int) : Int := if orderOk N n F = true then pk (dimsR N.ts).1 (ordS N F n).all else -1
theorem l17Peak_d {N : Net} {n : Nat} {F : List Int} (h : NSz 1048576 N) (hF : StpSz 1048576 n F) (hok : orderOk N n F = true) :
    Does Try.prog 78 [netA N, .d (stp n F)] [] (.d (.int (pk (dimsR N.ts).1 (ordS N F n).all))) [] := by
  have hn := hF.n
  have ho := ordOk hok n (Nat.le_refl _)
  have hal := ho.ok.n
  have hot := ho.t
  have hoo := ho.ok
  have h2 := (orderOk_iff.1 hok).2.1
  have h12 := (netOk_iff.1 (orderOk_iff.1 hok).1).2.1
  (refine spec_of (by kernel_rfl) Try.func78 k_spec_l17Peak (fnOk (Nat.le_of_ble_eq_true rfl) ?_); unfold C_spec_l17Peak)
  (simp only [Nat.reduceSub, List.length_cons, List.length_nil, Nat.reduceAdd, ch_init1, ch_init2, ch_init3, ch_init4, ch_init5, ch_init6, ch_init7, ch_init8]; try simp only [ch_rep]); (simp only [go_sem, seval, reduceCtorEq, List.replicate])
  (refine ti_call (l17Run_d h hF hok) ?_ ?_ ?_; (focus (simp only [go_sem, seval, reduceCtorEq]; done)); (first | rfl | (focus (simp only [go_sem]; done))))
  simp only [go_sem, seval, reduceCtorEq]
  generalize hS : ordS N F n = s at *
  have hz : pk (dimsR N.ts).1 (s.all.take 0) = 1 := rfl
  refine wpN_lp (s.all.length) [false, false, false, false, false, false, false, false, false, true, false, false, false, false, false, false, false, false, false, false, false, false, true, true, true, true, true, true, true, true, true, true, false] (fun k => [(7, .d (.int (pk (dimsR N.ts).1 (s.all.take k)))), (21, .d (.int k))]) (fun k => []) (fun _ => by (simp only [go_sem, seval, reduceCtorEq, dropF_ch, dropF_cons, dropF_nil, cut, cond_true, cond_false]); first | done | rfl) (fun _ => by (simp only [go_sem, seval, reduceCtorEq, cut]); first | done | rfl) (Nat.le_of_ble_eq_true rfl) (by first | (simp only [go_sem, seval, reduceCtorEq, dropF_ch, dropF_cons, dropF_nil, cut, cond_true, cond_false, Int.natCast_zero, Int.natCast_add, Int.natCast_one, hz]; done) | rfl | (simp only [go_sem, seval, reduceCtorEq, dropF_ch, dropF_cons, dropF_nil, cut, cond_true, cond_false, Int.natCast_zero, Int.natCast_add, Int.natCast_one, hz]; rfl)) (by first | (simp only [go_sem, seval, reduceCtorEq, dropF_ch, dropF_cons, dropF_nil, cut, cond_true, cond_false, Int.natCast_zero, Int.natCast_add, Int.natCast_one, hz]; done) | rfl | (simp only [go_sem, seval, reduceCtorEq, dropF_ch, dropF_cons, dropF_nil, cut, cond_true, cond_false, Int.natCast_zero, Int.natCast_add, Int.natCast_one, hz]; rfl)) fun k hk => ?_
  unfold L0_spec_l17Peak
  by_cases hlt : k < s.all.length
  · have d1 : (k : Int) < s.all.length := by omega
    have g := shA_cut (T := (dimsR N.ts).1) hlt
    have hlab : s.lab k = s.all[k] := by simp [Osd.lab, hlt]
    rw [← hlab] at g
    have hx := hot k
    have hln := hoo.len k
    have hml : ((s.lab k).map (atT (dimsR N.ts).1)).length = (s.lab k).length := List.length_map ..
    have hn := pk_next (T := (dimsR N.ts).1) hlt
    rw [← hlab] at hn
    have hmin : min 1000000000 (min (prodI ((s.lab k).map (atT (dimsR N.ts).1))) 1000000001) = capP (dimsR N.ts).1 (s.lab k) := by unfold capP; omega
    simp (disch := omega) only [go_sem, seval, reduceCtorEq, d1, g]
    (repeat (refine And.intro (by omega) ?_))
    (refine ti_call (l05Product_d (ds := (s.lab k).map (atT (dimsR N.ts).1)) (lim := 1000000000) (by omega) (fun d hd => by obtain ⟨x, hx', rfl⟩ := List.mem_map.1 hd; have := hx x hx'; omega) (by omega)) ?_ ?_ ?_; (focus (simp only [go_sem, seval, reduceCtorEq, hml]; done)); (first | rfl | (focus (simp only [go_sem]; done))))
    simp (disch := omega) only [go_sem, seval, reduceCtorEq, hmin]
    (refine Next.drop [false, false, false, false, false, false, false, false, false, true, false, false, false, false, false, false, false, false, false, false, false, false, true, true, true, true, true, true, true, true, true, true, false] (by omega) (Nat.le_of_ble_eq_true rfl) ?_ ?_ <;> first | (simp only [go_sem, seval, reduceCtorEq, dropF_ch, dropF_cons, dropF_nil, cut, cond_true, cond_false, Int.natCast_zero, Int.natCast_add, Int.natCast_one, hn]; done) | rfl | (simp only [go_sem, seval, reduceCtorEq, dropF_ch, dropF_cons, dropF_nil, cut, cond_true, cond_false, Int.natCast_zero, Int.natCast_add, Int.natCast_one, hn]; rfl) | skip)
  · have d1 : ¬ (k : Int) < s.all.length := by omega
    have ht : s.all.take k = s.all := List.take_of_length_le (by omega)
    simp (disch := omega) only [go_sem, seval, reduceCtorEq, d1, ht]
    (refine FnEnd.mk (Nat.le_of_ble_eq_true rfl) rfl (of_decide_eq_true rfl) ?_ ?_ <;> try simp only [go_sem, seval, reduceCtorEq])
theorem sOrderPeak_d {N : Net} {n : Nat} {F : List Int} (h : NSz 1048576 N) (hF : StpSz 1048576 n F) :
    Does Try.prog 31 [netA N, .d (stp n F)] [] (.d (.int (orderPeak N n F))) [] := by
  (refine spec_of (by kernel_rfl) Try.func31 k_spec_OrderPeak (fnOk (Nat.le_of_ble_eq_true rfl) ?_); unfold C_spec_OrderPeak)
  (simp only [Nat.reduceSub, List.length_cons, List.length_nil, Nat.reduceAdd, ch_init1, ch_init2, ch_init3, ch_init4, ch_init5, ch_init6, ch_init7, ch_init8]; try simp only [ch_rep]); (simp only [go_sem, seval, reduceCtorEq, List.replicate])
  (refine ti_call (sOrderOk_d h hF) ?_ ?_ ?_; (focus (simp only [go_sem, seval, reduceCtorEq]; done)); (first | rfl | (focus (simp only [go_sem]; done))))
  cases hok : orderOk N n F
  · have e : orderPeak N n F = -1 := by rw [orderPeak, hok]; rfl
    simp only [go_sem, seval, reduceCtorEq, hok, e]
    (refine FnEnd.mk (Nat.le_of_ble_eq_true rfl) rfl (of_decide_eq_true rfl) ?_ ?_ <;> try simp only [go_sem, seval, reduceCtorEq])
  have e : orderPeak N n F = pk (dimsR N.ts).1 (ordS N F n).all := by rw [orderPeak, if_pos hok]
  simp only [go_sem, seval, reduceCtorEq, hok]
  (refine ti_call (l17Peak_d h hF hok) ?_ ?_ ?_; (focus (simp only [go_sem, seval, reduceCtorEq]; done)); (first | rfl | (focus (simp only [go_sem]; done))))
  simp only [go_sem, seval, reduceCtorEq, e]
  (refine FnEnd.mk (Nat.le_of_ble_eq_true rfl) rfl (of_decide_eq_true rfl) ?_ ?_ <;> try simp only [go_sem, seval, reduceCtorEq])
theorem iOrderPeak_d {N : Net} {n : Nat} {F : List Int} (h : NSz 1048576 N) (hF : StpSz 1048576 n F) :
    Does Try.prog 33 [netA N, .d (stp n F)] [] (.d (.int (orderPeak N n F))) [] := by
  have hn := hF.n
  have hFl := hF.l
  have hol := h.o.len
  have hD := dimsR_len N.ts
  (refine spec_of (by kernel_rfl) Try.func33 k_impl_OrderPeak (fnOk (Nat.le_of_ble_eq_true rfl) ?_); unfold C_impl_OrderPeak)
  (simp only [Nat.reduceSub, List.length_cons, List.length_nil, Nat.reduceAdd, ch_init1, ch_init2, ch_init3, ch_init4, ch_init5, ch_init6, ch_init7, ch_init8]; try simp only [ch_rep]); (simp only [go_sem, seval, reduceCtorEq, List.replicate])
  (refine ti_call (iOrderOk_d h hF) ?_ ?_ ?_; (focus (simp only [go_sem, seval, reduceCtorEq]; done)); (first | rfl | (focus (simp only [go_sem]; done))))
  cases hok : orderOk N n F
  · have e : orderPeak N n F = -1 := by rw [orderPeak, hok]; rfl
    simp only [go_sem, seval, reduceCtorEq, hok, e]
    (refine FnEnd.mk (Nat.le_of_ble_eq_true rfl) rfl (of_decide_eq_true rfl) ?_ ?_ <;> try simp only [go_sem, seval, reduceCtorEq])
  have e : orderPeak N n F = pk (dimsR N.ts).1 (ordS N F n).all := by rw [orderPeak, if_pos hok]
  obtain ⟨h1, h2, _⟩ := orderOk_iff.1 hok
  have h12 := (netOk_iff.1 h1).2.1
  simp only [go_sem, seval, reduceCtorEq, hok]
  (refine ti_call (startState_d h h1) ?_ ?_ ?_; (focus (simp only [go_sem, seval, reduceCtorEq, osR, lvS]; done)); (first | rfl | (focus (simp only [go_sem]; done))))
  simp (disch := omega) only [go_sem, seval, reduceCtorEq, osR, lvS]
  have ho0t : OsT (dimsR N.ts).1 (osInit N.ts) := (ordOk hok 0 (Nat.zero_le _)).t
  have ho0k : OsOk (osInit N.ts) (N.ts.length + 0) := (ordOk hok 0 (Nat.zero_le _)).ok
  have hnl0 : (osInit N.ts).nums.length = N.ts.length := by rw [osInit_nums, List.length_range]
  have hal0 : (osInit N.ts).all.length = N.ts.length := by simp [osInit]
  have hz : pk (dimsR N.ts).1 ((osInit N.ts).all.take 0) = 1 := rfl
  refine wpN_lp (N.ts.length) [false, false, false, false, false, false, false, false, true, false, false, false, false, false, false, false, false, false, false, false, false, false, false, true, true, true, true, true, true, true, true, true, true, false, false, false, false, false, false, false, false, false, false, false, false, false, false, false, false, false, false, false, false, false, false, false, false, false, false, false, false] (fun k => [(6, .d (.int (pk (dimsR N.ts).1 ((osInit N.ts).all.take k)))), (22, .d (.int k))]) (fun k => []) (fun _ => by (simp only [go_sem, seval, reduceCtorEq, dropF_ch, dropF_cons, dropF_nil, cut, cond_true, cond_false]); first | done | rfl) (fun _ => by (simp only [go_sem, seval, reduceCtorEq, cut]); first | done | rfl) (Nat.le_of_ble_eq_true rfl) (by first | (simp only [go_sem, seval, reduceCtorEq, dropF_ch, dropF_cons, dropF_nil, cut, cond_true, cond_false, Int.natCast_zero, Int.natCast_add, Int.natCast_one, hz]; done) | rfl | (simp only [go_sem, seval, reduceCtorEq, dropF_ch, dropF_cons, dropF_nil, cut, cond_true, cond_false, Int.natCast_zero, Int.natCast_add, Int.natCast_one, hz]; rfl)) (by first | (simp only [go_sem, seval, reduceCtorEq, dropF_ch, dropF_cons, dropF_nil, cut, cond_true, cond_false, Int.natCast_zero, Int.natCast_add, Int.natCast_one, hz]; done) | rfl | (simp only [go_sem, seval, reduceCtorEq, dropF_ch, dropF_cons, dropF_nil, cut, cond_true, cond_false, Int.natCast_zero, Int.natCast_add, Int.natCast_one, hz]; rfl)) fun k hk => ?_
  unfold L1_impl_OrderPeak
  by_cases hlt : k < N.ts.length
  · have d1 : (k : Int) < (osInit N.ts).nums.length := by omega
    have hk : k < (osInit N.ts).nums.length := by omega
    have hnk : (osInit N.ts).nums[k] = k := by simp [osInit_nums]
    have g := lvD_cut (f := (osInit N.ts).lab) hk
    rw [hnk] at g
    have hlab : (osInit N.ts).lab k = (osInit N.ts).all[k] := by simp [Osd.lab, hal0, hlt]
    have hnx := pk_next (T := (dimsR N.ts).1) (L := (osInit N.ts).all) (show k < (osInit N.ts).all.length by omega)
    rw [← hlab] at hnx
    have hln := ho0k.len k
    simp (disch := omega) only [go_sem, seval, reduceCtorEq, d1, g]
    (repeat (refine And.intro (by omega) ?_))
    (refine ti_call (orderState_size_d (T := (dimsR N.ts).1) (os := N.os) (s := osInit N.ts) hD (by omega) (ho0k.at k).2 (ho0t k)) ?_ ?_ ?_; (focus (simp only [go_sem, seval, reduceCtorEq, osP, lvS]; done)); (first | rfl | (focus (simp only [go_sem]; done))))
    simp (disch := omega) only [go_sem, seval, reduceCtorEq]
    (refine Next.drop [false, false, false, false, false, false, false, false, true, false, false, false, false, false, false, false, false, false, false, false, false, false, false, true, true, true, true, true, true, true, true, true, true, false, false, false, false, false, false, false, false, false, false, false, false, false, false, false, false, false, false, false, false, false, false, false, false, false, false, false, false] (by omega) (Nat.le_of_ble_eq_true rfl) ?_ ?_ <;> first | (simp only [go_sem, seval, reduceCtorEq, dropF_ch, dropF_cons, dropF_nil, cut, cond_true, cond_false, Int.natCast_zero, Int.natCast_add, Int.natCast_one, hnx]; done) | rfl | (simp only [go_sem, seval, reduceCtorEq, dropF_ch, dropF_cons, dropF_nil, cut, cond_true, cond_false, Int.natCast_zero, Int.natCast_add, Int.natCast_one, hnx]; rfl) | skip)
  · have d1 : ¬ (k : Int) < (osInit N.ts).nums.length := by omega
    have ht : (osInit N.ts).all.take k = (osInit N.ts).all := List.take_of_length_le (by omega)
    have hz2 := ord_zero N F
    simp (disch := omega) only [go_sem, seval, reduceCtorEq, d1, ht]
    refine wpN_lp (n) [false, false, false, false, false, false, false, false, false, false, true, false, false, false, false, false, false, false, false, false, false, false, false, false, false, false, false, false, false, false, false, false, false, false, false, false, true, true, true, true, true, true, true, true, true, true, true, true, true, true, true, true, true, true, true, true, true, true, true, true, false] (fun q => [(35, .d (.int q)), (6, .d (.int (pk (dimsR N.ts).1 (ordS N F q).all)))]) (fun q => [(1, osB (dimsR N.ts).1 (.d (ints N.os)) (.d (lvS (ordS N F q))) (.d (.int (ordS N F q).all.length)))]) (fun _ => by (simp only [go_sem, seval, reduceCtorEq, dropF_ch, dropF_cons, dropF_nil, cut, cond_true, cond_false]); first | done | rfl) (fun _ => by (simp only [go_sem, seval, reduceCtorEq, cut]); first | done | rfl) (Nat.le_of_ble_eq_true rfl) (by first | (simp only [go_sem, seval, reduceCtorEq, dropF_ch, dropF_cons, dropF_nil, cut, cond_true, cond_false, Int.natCast_zero, Int.natCast_add, Int.natCast_one, hz2, lvS]; done) | rfl | (simp only [go_sem, seval, reduceCtorEq, dropF_ch, dropF_cons, dropF_nil, cut, cond_true, cond_false, Int.natCast_zero, Int.natCast_add, Int.natCast_one, hz2, lvS]; rfl)) (by first | (simp only [go_sem, seval, reduceCtorEq, dropF_ch, dropF_cons, dropF_nil, cut, cond_true, cond_false, Int.natCast_zero, Int.natCast_add, Int.natCast_one, hz2, lvS]; done) | rfl | (simp only [go_sem, seval, reduceCtorEq, dropF_ch, dropF_cons, dropF_nil, cut, cond_true, cond_false, Int.natCast_zero, Int.natCast_add, Int.natCast_one, hz2, lvS]; rfl)) fun q hq => ?_
    unfold L0_impl_OrderPeak
    by_cases hltq : q < n
    · have d2 : (q : Int) < n := by omega
      have g := stp_cut hF hltq
      have hs := ordStep hok hltq
      have ho := ordOk hok q (by omega)
      have ho1 := ordOk hok (q + 1) (by omega)
      have hnx := hs.nx
      have hfy := orderState_follow_yes (D := (dimsR N.ts).1) (os := N.os) hD ho.ok (by omega) (by omega) hs.fol
      rw [show (F.getD (q * 2) 0).toNat = stA F q from rfl, show (F.getD (q * 2 + 1) 0).toNat = stB F q from rfl, ← hnx] at hfy
      have hnn := nums_step (os := N.os) (a := stA F q) (b := stB F q) ho.ok
      rw [← hnx] at hnn
      have hlast : ∃ L : Nat, (ordS N F (q + 1)).nums.length = L + 1 ∧ ∃ hL : L < (ordS N F (q + 1)).nums.length, (ordS N F (q + 1)).nums[L] = N.ts.length + q := by
        refine ⟨((ordS N F q).nums.filter (Osd.off (stA F q) (stB F q))).length, by rw [hnn]; simp, by rw [hnn]; simp, ?_⟩
        simp [hnn]
      obtain ⟨L, hL1, hL, hL2⟩ := hlast
      have hln := nums_len ho1.ok
      have gl := lvD_get1 (f := (ordS N F (q + 1)).lab) hL
      rw [hL2] at gl
      have hres : (ordS N F (q + 1)).lab (N.ts.length + q) = (ordS N F q).res N.os (stA F q) (stB F q) := by rw [hnx]; exact lab_step_new ho.ok
      have hpk : pk (dimsR N.ts).1 (ordS N F (q + 1)).all = max (pk (dimsR N.ts).1 (ordS N F q).all) (capP (dimsR N.ts).1 ((ordS N F (q + 1)).lab (N.ts.length + q))) := by
        rw [hres, ← pk_snoc, hnx]; rfl
      have hlk := ho1.ok.len (N.ts.length + q)
      have eL : ((ordS N F (q + 1)).nums.length : Int) - 1 = L := by omega
      have iL : (L : Int) < (ordS N F (q + 1)).nums.length := by omega
      simp (disch := omega) only [go_sem, seval, reduceCtorEq, d2, g, dv_two]
      (repeat (refine And.intro (by omega) ?_))
      (refine ti_callcg [1] [] false (of_decide_eq_true rfl) ?_ _ ?_ (hfy) ?_ ?_; (focus (simp only [go_sem, seval, reduceCtorEq, osR, lvS]; done)); (focus (simp only [go_sem, seval, reduceCtorEq, osR, lvS]; done)); (focus (first | rfl | (simp only [go_sem, seval, reduceCtorEq, osR, lvS]; done))))
      simp (disch := omega) only [go_sem, seval, reduceCtorEq, osR, lvS, eL, iL, gl]
      (repeat (refine And.intro (by omega) ?_))
      (refine gi_call (orderState_size_d (T := (dimsR N.ts).1) (os := N.os) (s := ordS N F (q + 1)) hD (by omega) (ho1.ok.at (N.ts.length + q)).2 (ho1.t (N.ts.length + q))) ?_ ?_ ?_; (focus (simp only [go_sem, seval, reduceCtorEq, osP, lvS]; done)); (first | rfl | (focus (simp only [go_sem]; done))))
      simp (disch := omega) only [go_sem, seval, reduceCtorEq]
      (refine Next.drop [false, false, false, false, false, false, false, false, false, false, true, false, false, false, false, false, false, false, false, false, false, false, false, false, false, false, false, false, false, false, false, false, false, false, false, false, true, true, true, true, true, true, true, true, true, true, true, true, true, true, true, true, true, true, true, true, true, true, true, true, false] (by omega) (Nat.le_of_ble_eq_true rfl) ?_ ?_ <;> first | (simp only [go_sem, seval, reduceCtorEq, dropF_ch, dropF_cons, dropF_nil, cut, cond_true, cond_false, Int.natCast_zero, Int.natCast_add, Int.natCast_one, hpk, lvS]; done) | rfl | (simp only [go_sem, seval, reduceCtorEq, dropF_ch, dropF_cons, dropF_nil, cut, cond_true, cond_false, Int.natCast_zero, Int.natCast_add, Int.natCast_one, hpk, lvS]; rfl) | skip)
    · have d2 : ¬ (q : Int) < n := by omega
      obtain rfl : q = n := by omega
      simp (disch := omega) only [go_sem, seval, reduceCtorEq, d2, e]
      (refine FnEnd.mk (Nat.le_of_ble_eq_true rfl) rfl (of_decide_eq_true rfl) ?_ ?_ <;> try simp only [go_sem, seval, reduceCtorEq])
end Go.Proofs.Ytjncdanegoileaa
