/-
  Contracts: peaks of orders. No condition.
-/
import Derived.Test.YtjncdanegoileaaMgOrderPeakE
namespace Go.Proofs.Ytjncdanegoileaa
open Go.RowKit Go.Lift Plain
set_option linter.unusedSimpArgs false
set_option linter.unusedVariables false
set_option maxRecDepth 100000

/-- The greatest size. -/
def pk (T : List Int) (L : List (List Int)) : Int := L.foldl (fun p l => max p (capP T l)) 1
theorem pk_snoc (T : List Int) (L : List (List Int)) (l : List Int) : pk T (L ++ [l]) = max (pk T L) (capP T l) := by rw [pk, List.foldl_append]; rfl
theorem pk_next {T : List Int} {L : List (List Int)} {k : Nat} (h : k < L.length) : pk T (L.take (k + 1)) = max (pk T (L.take k)) (capP T L[k]) := by rw [take_ss h, pk_snoc]
noncomputable def orderPeak (N : Net) (n : Nat) (F : List Int) : Int := if orderOk N n F = true then pk (dimsR N.ts).1 (ordS N F n).all else -1
theorem l17Peak_d {N : Net} {n : Nat} {F : List Int} (h : NSz 1048576 N) (hF : StpSz 1048576 n F) (hok : orderOk N n F = true) :
    Does Try.prog 78 [netA N, .d (stp n F)] [] (.d (.int (pk (dimsR N.ts).1 (ordS N F n).all))) [] := by
  have hn := hF.n
  have ho := ordOk hok n (Nat.le_refl _)
  have hal := ho.ok.n
  have hot := ho.t
  have hoo := ho.ok
  have h2 := (orderOk_iff.1 hok).2.1
  have h12 := (netOk_iff.1 (orderOk_iff.1 hok).1).2.1
  (refine spec_of (by kernel_rfl) Try.func78 k_spec_l17Peak (fnOk (Nat.le_of_ble_eq_true rfl) ?_); unfold C_spec_l17Peak)
  (simp only [Nat.reduceSub, List.length_cons, List.length_nil, Nat.reduceAdd, ch_init1, ch_init2, ch_init3, ch_init4, ch_init5, ch_init6, ch_init7, ch_init8]; try simp only [ch_rep]); (simp only [go_sem, seval, reduceCtorEq, List.replicate])
  (refine ti_call (l17Run_d h hF hok) ?_ ?_ ?_; (focus (simp only [go_sem, seval, reduceCtorEq]; done)); (first | rfl | (focus (simp only [go_sem]; done))))
  simp only [go_sem, seval, reduceCtorEq]
  generalize hS : ordS N F n = s at *
  have hz : pk (dimsR N.ts).1 (s.all.take 0) = 1 := rfl
  refine wpN_lp (s.all.length) [false, false, false, false, false, false, false, false, false, true, false, false, false, false, false, false, false, false, false, false, false, false, true, true, true, true, true, true, true, true, true, true, false] (fun k => [(7, .d (.int (pk (dimsR N.ts).1 (s.all.take k)))), (21, .d (.int k))]) (fun k => []) (fun _ => by (simp only [go_sem, seval, reduceCtorEq, dropF_ch, dropF_cons, dropF_nil, cut, cond_true, cond_false]); first | done | rfl) (fun _ => by (simp only [go_sem, seval, reduceCtorEq, cut]); first | done | rfl) (Nat.le_of_ble_eq_true rfl) (by first | (simp only [go_sem, seval, reduceCtorEq, dropF_ch, dropF_cons, dropF_nil, cut, cond_true, cond_false, Int.natCast_zero, Int.natCast_add, Int.natCast_one, hz]; done) | rfl | (simp only [go_sem, seval, reduceCtorEq, dropF_ch, dropF_cons, dropF_nil, cut, cond_true, cond_false, Int.natCast_zero, Int.natCast_add, Int.natCast_one, hz]; rfl)) (by first | (simp only [go_sem, seval, reduceCtorEq, dropF_ch, dropF_cons, dropF_nil, cut, cond_true, cond_false, Int.natCast_zero, Int.natCast_add, Int.natCast_one, hz]; done) | rfl | (simp only [go_sem, seval, reduceCtorEq, dropF_ch, dropF_cons, dropF_nil, cut, cond_true, cond_false, Int.natCast_zero, Int.natCast_add, Int.natCast_one, hz]; rfl)) fun k hk => ?_
  unfold L0_spec_l17Peak
  by_cases hlt : k < s.all.length
  · have d1 : (k : Int) < s.all.length := by omega
    have g := shA_cut (T := (dimsR N.ts).1) hlt
    have hlab : s.lab k = s.all[k] := by simp [Osd.lab, hlt]
    rw [← hlab] at g
    have hx := hot k
    have hln := hoo.len k
    have hml : ((s.lab k).map (atT (dimsR N.ts).1)).length = (s.lab k).length := List.length_map ..
    have hn := pk_next (T := (dimsR N.ts).1) hlt
    rw [← hlab] at hn
    have hmin : min 1000000000 (min (prodI ((s.lab k).map (atT (dimsR N.ts).1))) 1000000001) = capP (dimsR N.ts).1 (s.lab k) := by unfold capP; omega
    simp (disch := omega) only [go_sem, seval, reduceCtorEq, d1, g]
    (repeat (refine And.intro (by omega) ?_))
    (refine ti_call (l05Product_d (ds := (s.lab k).map (atT (dimsR N.ts).1)) (lim := 1000000000) (by omega) (fun d hd => by obtain ⟨x, hx', rfl⟩ := List.mem_map.1 hd; have := hx x hx'; omega) (by omega)) ?_ ?_ ?_; (focus (simp only [go_sem, seval, reduceCtorEq, hml]; done)); (first | rfl | (focus (simp only [go_sem]; done))))
    simp (disch := omega) only [go_sem, seval, reduceCtorEq, hmin]
    (refine Next.drop [false, false, false, false, false, false, false, false, false, true, false, false, false, false, false, false, false, false, false, false, false, false, true, true, true, true, true, true, true, true, true, true, false] (by omega) (Nat.le_of_ble_eq_true rfl) ?_ ?_ <;> first | (simp only [go_sem, seval, reduceCtorEq, dropF_ch, dropF_cons, dropF_nil, cut, cond_true, cond_false, Int.natCast_zero, Int.natCast_add, Int.natCast_one, hn]; done) | rfl | (simp only [go_sem, seval, reduceCtorEq, dropF_ch, dropF_cons, dropF_nil, cut, cond_true, cond_false, Int.natCast_zero, Int.natCast_add, Int.natCast_one, hn]; rfl) | skip)
  · have d1 : ¬ (k : Int) < s.all.length := by omega
    have ht : s.all.take k = s.all := List.take_of_length_le (by omega)
    simp (disch := omega) only [go_sem, seval, reduceCtorEq, d1, ht]
    (refine FnEnd.mk (Nat.le_of_ble_eq_true rfl) rfl (of_decide_eq_true rfl) ?_ ?_ <;> try simp only [go_sem, seval, reduceCtorEq])
theorem sOrderPeak_d {N : Net} {n : Nat} {F : List Int} (h : NSz 1048576 N) (hF : StpSz 1048576 n F) :
    Does Try.prog 31 [netA N, .d (stp n F)] [] (.d (.int (orderPeak N n F))) [] := by
  (refine spec_of (by kernel_rfl) Try.func31 k_spec_OrderPeak (fnOk (Nat.le_of_ble_eq_true rfl) ?_); unfold C_spec_OrderPeak)
  (simp only [Nat.reduceSub, List.length_cons, List.length_nil, Nat.reduceAdd, ch_init1, ch_init2, ch_init3, ch_init4, ch_init5, ch_init6, ch_init7, ch_init8]; try simp only [ch_rep]); (simp only [go_sem, seval, reduceCtorEq, List.replicate])
  (refine ti_call (sOrderOk_d h hF) ?_ ?_ ?_; (focus (simp only [go_sem, seval, reduceCtorEq]; done)); (first | rfl | (focus (simp only [go_sem]; done))))
  cases hok : orderOk N n F
  · have e : orderPeak N n F = -1 := by rw [orderPeak, hok]; rfl
    simp only [go_sem, seval, reduceCtorEq, hok, e]
    (refine FnEnd.mk (Nat.le_of_ble_eq_true rfl) rfl (of_decide_eq_true rfl) ?_ ?_ <;> try simp only [go_sem, seval, reduceCtorEq])
  have e : orderPeak N n F = pk (dimsR N.ts).1 (ordS N F n).all := by rw [orderPeak, if_pos hok]
  simp only [go_sem, seval, reduceCtorEq, hok]
  (refine ti_call (l17Peak_d h hF hok) ?_ ?_ ?_; (focus (simp only [go_sem, seval, reduceCtorEq]; done)); (first | rfl | (focus (simp only [go_sem]; done))))
  simp only [go_sem, seval, reduceCtorEq, e]
  (refine FnEnd.mk (Nat.le_of_ble_eq_true rfl) rfl (of_decide_eq_true rfl) ?_ ?_ <;> try simp only [go_sem, seval, reduceCtorEq])
theorem iOrderPeak_d {N : Net} {n : Nat} {F : List Int} (h : NSz 1048576 N) (hF : StpSz 1048576 n F) :
    Does Try.prog 33 [netA N, .d (stp n F)] [] (.d (.int (orderPeak N n F))) [] := by
  have hn := hF.n
  have hFl := hF.l
  have hol := h.o.len
  have hD := dimsR_len N.ts
  (refine spec_of (by kernel_rfl) Try.func33 k_impl_OrderPeak (fnOk (Nat.le_of_ble_eq_true rfl) ?_); unfold C_impl_OrderPeak)
  (simp only [Nat.reduceSub, List.length_cons, List.length_nil, Nat.reduceAdd, ch_init1, ch_init2, ch_init3, ch_init4, ch_init5, ch_init6, ch_init7, ch_init8]; try simp only [ch_rep]); (simp only [go_sem, seval, reduceCtorEq, List.replicate])
  (refine ti_call (iOrderOk_d h hF) ?_ ?_ ?_; (focus (simp only [go_sem, seval, reduceCtorEq]; done)); (first | rfl | (focus (simp only [go_sem]; done))))
  cases hok : orderOk N n F
  · have e : orderPeak N n F = -1 := by rw [orderPeak, hok]; rfl
    simp only [go_sem, seval, reduceCtorEq, hok, e]
    (refine FnEnd.mk (Nat.le_of_ble_eq_true rfl) rfl (of_decide_eq_true rfl) ?_ ?_ <;> try simp only [go_sem, seval, reduceCtorEq])
  have e : orderPeak N n F = pk (dimsR N.ts).1 (ordS N F n).all := by rw [orderPeak, if_pos hok]
  obtain ⟨h1, h2, _⟩ := orderOk_iff.1 hok
  have h12 := (netOk_iff.1 h1).2.1
  simp only [go_sem, seval, reduceCtorEq, hok]
  (refine ti_call (startState_d h h1) ?_ ?_ ?_; (focus (simp only [go_sem, seval, reduceCtorEq, osR, lvS]; done)); (first | rfl | (focus (simp only [go_sem]; done))))
  simp (disch := omega) only [go_sem, seval, reduceCtorEq, osR, lvS]
  have ho0t : OsT (dimsR N.ts).1 (osInit N.ts) := (ordOk hok 0 (Nat.zero_le _)).t
  have ho0k : OsOk (osInit N.ts) (N.ts.length + 0) := (ordOk hok 0 (Nat.zero_le _)).ok
  have hnl0 : (osInit N.ts).nums.length = N.ts.length := by rw [osInit_nums, List.length_range]
  have hal0 : (osInit N.ts).all.length = N.ts.length := by simp [osInit]
  have hz : pk (dimsR N.ts).1 ((osInit N.ts).all.take 0) = 1 := rfl
  refine wpN_lp (N.ts.length) [false, false, false, false, false, false, false, false, true, false, false, false, false, false, false, false, false, false, false, false, false, false, false, true, true, true, true, true, true, true, true, true, true, false, false, false, false, false, false, false, false, false, false, false, false, false, false, false, false, false, false, false, false, false, false, false, false, false, false, false, false] (fun k => [(6, .d (.int (pk (dimsR N.ts).1 ((osInit N.ts).all.take k)))), (22, .d (.int k))]) (fun k => []) (fun _ => by (simp only [go_sem, seval, reduceCtorEq, dropF_ch, dropF_cons, dropF_nil, cut, cond_true, cond_false]); first | done | rfl) (fun _ => by (simp only [go_sem, seval, reduceCtorEq, cut]); first | done | rfl) (Nat.le_of_ble_eq_true rfl) (by first | (simp only [go_sem, seval, reduceCtorEq, dropF_ch, dropF_cons, dropF_nil, cut, cond_true, cond_false, Int.natCast_zero, Int.natCast_add, Int.natCast_one, hz]; done) | rfl | (simp only [go_sem, seval, reduceCtorEq, dropF_ch, dropF_cons, dropF_nil, cut, cond_true, cond_false, Int.natCast_zero, Int.natCast_add, Int.natCast_one, hz]; rfl)) (by first | (simp only [go_sem, seval, reduceCtorEq, dropF_ch, dropF_cons, dropF_nil, cut, cond_true, cond_false, Int.natCast_zero, Int.natCast_add, Int.natCast_one, hz]; done) | rfl | (simp only [go_sem, seval, reduceCtorEq, dropF_ch, dropF_cons, dropF_nil, cut, cond_true, cond_false, Int.natCast_zero, Int.natCast_add, Int.natCast_one, hz]; rfl)) fun k hk => ?_
  unfold L1_impl_OrderPeak
  by_cases hlt : k < N.ts.length
  · have d1 : (k : Int) < (osInit N.ts).nums.length := by omega
    have hk : k < (osInit N.ts).nums.length := by omega
    have hnk : (osInit N.ts).nums[k] = k := by simp [osInit_nums]
    have g := lvD_cut (f := (osInit N.ts).lab) hk
    rw [hnk] at g
    have hlab : (osInit N.ts).lab k = (osInit N.ts).all[k] := by simp [Osd.lab, hal0, hlt]
    have hnx := pk_next (T := (dimsR N.ts).1) (L := (osInit N.ts).all) (show k < (osInit N.ts).all.length by omega)
    rw [← hlab] at hnx
    have hln := ho0k.len k
    simp (disch := omega) only [go_sem, seval, reduceCtorEq, d1, g]
    (repeat (refine And.intro (by omega) ?_))
    (refine ti_call (orderState_size_d (T := (dimsR N.ts).1) (os := N.os) (s := osInit N.ts) hD (by omega) (ho0k.at k).2 (ho0t k)) ?_ ?_ ?_; (focus (simp only [go_sem, seval, reduceCtorEq, osP, lvS]; done)); (first | rfl | (focus (simp only [go_sem]; done))))
    simp (disch := omega) only [go_sem, seval, reduceCtorEq]
    (refine Next.drop [false, false, false, false, false, false, false, false, true, false, false, false, false, false, false, false, false, false, false, false, false, false, false, true, true, true, true, true, true, true, true, true, true, false, false, false, false, false, false, false, false, false, false, false, false, false, false, false, false, false, false, false, false, false, false, false, false, false, false, false, false] (by omega) (Nat.le_of_ble_eq_true rfl) ?_ ?_ <;> first | (simp only [go_sem, seval, reduceCtorEq, dropF_ch, dropF_cons, dropF_nil, cut, cond_true, cond_false, Int.natCast_zero, Int.natCast_add, Int.natCast_one, hnx]; done) | rfl | (simp only [go_sem, seval, reduceCtorEq, dropF_ch, dropF_cons, dropF_nil, cut, cond_true, cond_false, Int.natCast_zero, Int.natCast_add, Int.natCast_one, hnx]; rfl) | skip)
  · have d1 : ¬ (k : Int) < (osInit N.ts).nums.length := by omega
    have ht : (osInit N.ts).all.take k = (osInit N.ts).all := List.take_of_length_le (by omega)
    have hz2 := ord_zero N F
    simp (disch := omega) only [go_sem, seval, reduceCtorEq, d1, ht]
    refine wpN_lp (n) [false, false, false, false, false, false, false, false, false, false, true, false, false, false, false, false, false, false, false, false, false, false, false, false, false, false, false, false, false, false, false, false, false, false, false, false, true, true, true, true, true, true, true, true, true, true, true, true, true, true, true, true, true, true, true, true, true, true, true, true, false] (fun q => [(35, .d (.int q)), (6, .d (.int (pk (dimsR N.ts).1 (ordS N F q).all)))]) (fun q => [(1, osB (dimsR N.ts).1 (.d (ints N.os)) (.d (lvS (ordS N F q))) (.d (.int (ordS N F q).all.length)))]) (fun _ => by (simp only [go_sem, seval, reduceCtorEq, dropF_ch, dropF_cons, dropF_nil, cut, cond_true, cond_false]); first | done | rfl) (fun _ => by (simp only [go_sem, seval, reduceCtorEq, cut]); first | done | rfl) (Nat.le_of_ble_eq_true rfl) (by first | (simp only [go_sem, seval, reduceCtorEq, dropF_ch, dropF_cons, dropF_nil, cut, cond_true, cond_false, Int.natCast_zero, Int.natCast_add, Int.natCast_one, hz2, lvS]; done) | rfl | (simp only [go_sem, seval, reduceCtorEq, dropF_ch, dropF_cons, dropF_nil, cut, cond_true, cond_false, Int.natCast_zero, Int.natCast_add, Int.natCast_one, hz2, lvS]; rfl)) (by first | (simp only [go_sem, seval, reduceCtorEq, dropF_ch, dropF_cons, dropF_nil, cut, cond_true, cond_false, Int.natCast_zero, Int.natCast_add, Int.natCast_one, hz2, lvS]; done) | rfl | (simp only [go_sem, seval, reduceCtorEq, dropF_ch, dropF_cons, dropF_nil, cut, cond_true, cond_false, Int.natCast_zero, Int.natCast_add, Int.natCast_one, hz2, lvS]; rfl)) fun q hq => ?_
    unfold L0_impl_OrderPeak
    by_cases hltq : q < n
    · have d2 : (q : Int) < n := by omega
      have g := stp_cut hF hltq
      have hs := ordStep hok hltq
      have ho := ordOk hok q (by omega)
      have ho1 := ordOk hok (q + 1) (by omega)
      have hnx := hs.nx
      have hfy := orderState_follow_yes (D := (dimsR N.ts).1) (os := N.os) hD ho.ok (by omega) (by omega) hs.fol
      rw [show (F.getD (q * 2) 0).toNat = stA F q from rfl, show (F.getD (q * 2 + 1) 0).toNat = stB F q from rfl, ← hnx] at hfy
      have hnn := nums_step (os := N.os) (a := stA F q) (b := stB F q) ho.ok
      rw [← hnx] at hnn
      have hlast : ∃ L : Nat, (ordS N F (q + 1)).nums.length = L + 1 ∧ ∃ hL : L < (ordS N F (q + 1)).nums.length, (ordS N F (q + 1)).nums[L] = N.ts.length + q := by
        refine ⟨((ordS N F q).nums.filter (Osd.off (stA F q) (stB F q))).length, by rw [hnn]; simp, by rw [hnn]; simp, ?_⟩
        simp [hnn]
      obtain ⟨L, hL1, hL, hL2⟩ := hlast
      have hln := nums_len ho1.ok
      have gl := lvD_get1 (f := (ordS N F (q + 1)).lab) hL
      rw [hL2] at gl
      have hres : (ordS N F (q + 1)).lab (N.ts.length + q) = (ordS N F q).res N.os (stA F q) (stB F q) := by rw [hnx]; exact lab_step_new ho.ok
      have hpk : pk (dimsR N.ts).1 (ordS N F (q + 1)).all = max (pk (dimsR N.ts).1 (ordS N F q).all) (capP (dimsR N.ts).1 ((ordS N F (q + 1)).lab (N.ts.length + q))) := by
        rw [hres, ← pk_snoc, hnx]; rfl
      have hlk := ho1.ok.len (N.ts.length + q)
      have eL : ((ordS N F (q + 1)).nums.length : Int) - 1 = L := by omega
      have iL : (L : Int) < (ordS N F (q + 1)).nums.length := by omega
      simp (disch := omega) only [go_sem, seval, reduceCtorEq, d2, g, dv_two]
      (repeat (refine And.intro (by omega) ?_))
      (refine ti_callcg [1] [] false (of_decide_eq_true rfl) ?_ _ ?_ (hfy) ?_ ?_; (focus (simp only [go_sem, seval, reduceCtorEq, osR, lvS]; done)); (focus (simp only [go_sem, seval, reduceCtorEq, osR, lvS]; done)); (focus (first | rfl | (simp only [go_sem, seval, reduceCtorEq, osR, lvS]; done))))
      simp (disch := omega) only [go_sem, seval, reduceCtorEq, osR, lvS, eL, iL, gl]
      (repeat (refine And.intro (by omega) ?_))
      (refine gi_call (orderState_size_d (T := (dimsR N.ts).1) (os := N.os) (s := ordS N F (q + 1)) hD (by omega) (ho1.ok.at (N.ts.length + q)).2 (ho1.t (N.ts.length + q))) ?_ ?_ ?_; (focus (simp only [go_sem, seval, reduceCtorEq, osP, lvS]; done)); (first | rfl | (focus (simp only [go_sem]; done))))
      simp (disch := omega) only [go_sem, seval, reduceCtorEq]
      (refine Next.drop [false, false, false, false, false, false, false, false, false, false, true, false, false, false, false, false, false, false, false, false, false, false, false, false, false, false, false, false, false, false, false, false, false, false, false, false, true, true, true, true, true, true, true, true, true, true, true, true, true, true, true, true, true, true, true, true, true, true, true, true, false] (by omega) (Nat.le_of_ble_eq_true rfl) ?_ ?_ <;> first | (simp only [go_sem, seval, reduceCtorEq, dropF_ch, dropF_cons, dropF_nil, cut, cond_true, cond_false, Int.natCast_zero, Int.natCast_add, Int.natCast_one, hpk, lvS]; done) | rfl | (simp only [go_sem, seval, reduceCtorEq, dropF_ch, dropF_cons, dropF_nil, cut, cond_true, cond_false, Int.natCast_zero, Int.natCast_add, Int.natCast_one, hpk, lvS]; rfl) | skip)
    · have d2 : ¬ (q : Int) < n := by omega
      obtain rfl : q = n := by omega
      simp (disch := omega) only [go_sem, seval, reduceCtorEq, d2, e]
      (refine FnEnd.mk (Nat.le_of_ble_eq_true rfl) rfl (of_decide_eq_true rfl) ?_ ?_ <;> try simp only [go_sem, seval, reduceCtorEq])
end Go.Proofs.Ytjncdanegoileaa

/-
  Networks among the arguments, opened as plain data. No condition.
-/
namespace Go.Proofs.Ytjncdanegoileaa
open Go.RowKit Go.Lift Go.ChangeShapes Go.WideShapes Plain
set_option maxRecDepth 100000

theorem hasD_int {d : D} (h : HasD d .int) : ∃ n, d = .int n ∧ I64 n := by
  cases d <;> simp only [HasD] at h
  exact ⟨_, rfl, h⟩
theorem hasDL_ints : ∀ {l : List D} {j : Nat}, HasDL l j [.int] → ∃ xs : List Int, l = dv xs ∧ ∀ x ∈ xs, I64 x
  | [], _, _ => ⟨[], rfl, by simp⟩
  | x :: l, j, h => by
    simp only [HasDL, List.length_cons, List.length_nil, Nat.zero_add, Nat.mod_one, List.getD_cons_zero] at h
    obtain ⟨n, rfl, hn⟩ := hasD_int h.1
    obtain ⟨xs, rfl, hx⟩ := hasDL_ints h.2
    exact ⟨n :: xs, rfl, by simpa using ⟨hn, hx⟩⟩
theorem hasD_ints {d : D} (h : HasD d (.sl [.int])) : ∃ xs : List Int, d = ints xs ∧ Sz 9223372036854775807 xs := by
  cases d <;> simp only [HasD] at h
  obtain ⟨h1, h2, h3⟩ := h
  obtain ⟨xs, rfl, hx⟩ := hasDL_ints h3
  simp only [dv, List.length_map, List.length_cons, List.length_nil, Nat.zero_add, Nat.mul_one] at h2
  subst h2
  exact ⟨xs, rfl, h1, hx⟩
theorem hasDL_tens : ∀ {n : Nat} {l : List D} {j : Nat}, j % 3 = 0 → l.length = n * 3 → HasDL l j [.sl [.int], .sl [.int], .sl [.int]] → ∃ ts : List Ten, l = tcs ts ∧ ts.length = n ∧ ∀ t ∈ ts, TSz 9223372036854775807 t
  | 0, l, _, _, hl, _ => by
    obtain rfl := List.eq_nil_of_length_eq_zero (by simpa using hl)
    exact ⟨[], rfl, rfl, by simp⟩
  | n + 1, l, j, hj, hl, h => by
    match l, hl with
    | x :: y :: z :: l, hl =>
      simp only [HasDL, List.length_cons, List.length_nil] at h
      obtain ⟨h0, h1, h2, h3⟩ := h
      rw [show j % (0 + 1 + 1 + 1) = 0 by simpa using hj] at h0
      rw [show (j + 1) % (0 + 1 + 1 + 1) = 1 by simp; omega] at h1
      rw [show (j + 1 + 1) % (0 + 1 + 1 + 1) = 2 by simp; omega] at h2
      obtain ⟨a, rfl, ha⟩ := hasD_ints (by simpa using h0)
      obtain ⟨b, rfl, hb⟩ := hasD_ints (by simpa using h1)
      obtain ⟨c, rfl, hc⟩ := hasD_ints (by simpa using h2)
      obtain ⟨ts, rfl, ht, hs⟩ := hasDL_tens (n := n) (j := j + 1 + 1 + 1) (by omega) (by simp at hl; omega) h3
      refine ⟨⟨a, b, c⟩ :: ts, rfl, by simp [ht], fun t hm => ?_⟩
      rcases List.mem_cons.1 hm with rfl | hm
      · exact ⟨ha, hb, hc⟩
      · exact hs t hm
    | [], hl => simp at hl
    | [_], hl => simp at hl; omega
    | [_, _], hl => simp at hl; omega
theorem hasD_tens {d : D} (h : HasD d (.sl [.sl [.int], .sl [.int], .sl [.int]])) : ∃ ts : List Ten, d = tens ts ∧ ts.length ≤ 9223372036854775807 ∧ ∀ t ∈ ts, TSz 9223372036854775807 t := by
  cases d <;> simp only [HasD] at h
  obtain ⟨h1, h2, h3⟩ := h
  obtain ⟨ts, rfl, ht, hs⟩ := hasDL_tens (by omega) (by simpa using h2) h3
  subst ht
  exact ⟨ts, rfl, h1, hs⟩
/-- An argument reads as a network. -/
structure NetIn (w : World) (v : Value) (N : Net) : Prop where
  rel : Rel w (topL w) id (at_ []) (netA N) v
  sz : NSz 9223372036854775807 N
theorem reads_rel {w : World} {cs : Array Value} {ds : List D} {shs : List Sh} (h : Reads w cs.toList ds shs) : Rel w (topL w) id (at_ []) (.agg (ds.map .d)) (.agg cs) := by
  rw [Rel]
  refine ⟨cs, rfl, RelL.of_get (by simpa using h.1.symm) fun i x hx => ?_⟩
  simp only [List.getElem?_map, Option.map_eq_some_iff] at hx
  obtain ⟨d, hd, rfl⟩ := hx
  have hi : i < cs.toList.length := by rw [← h.1]; exact (List.getElem?_eq_some_iff.1 hd).1
  obtain ⟨d', e1, e2, _⟩ := h.2.2 i _ _ (List.getElem?_eq_getElem hi) (List.getElem?_eq_getElem (by rw [h.2.1]; exact hi))
  rw [hd] at e1
  simp only [Option.some.injEq] at e1
  subst e1
  exact ⟨_, List.getElem?_eq_getElem hi, by rw [Rel]; exact e2⟩
section
variable {H : Type} {enc : TypeId × Value → H} {w : World} {base : Nat} {held : Bool} {r : Reach}
theorem open_network {b0 : Nat} {v : Value} {d : DataW H} {p : List MemPlace} (hv : Value.okWide Try.prog w r b0 43 v) (h : DataW.Trod enc Try.prog w base (fun _ => true) held 43 v d p) :
    ∃ N, NetIn w v N := by
  obtain ⟨cs, rfl, hsz⟩ := okWide_struct Try.underlying43 hv
  obtain ⟨fuel, hf⟩ := h
  obtain ⟨ds, hR⟩ := reads_of 5 43 [.int, .int, .int, .sl [.sl [.int], .sl [.int], .sl [.int]], .sl [.int]] (by kernel_rfl) fuel cs.toList _ (by simpa [Value.cells] using hf) (by kernel_rfl)
  have hrel := reads_rel hR
  obtain ⟨h1, h2, h3⟩ := hR
  have hl : ds.length = 5 := by rw [h1, ← h2]; rfl
  match ds, hl with
  | [d0, d1, d2, d3, d4], _ =>
    have get : ∀ (i : Nat) (x : D) (s : Sh), [d0, d1, d2, d3, d4][i]? = some x → ([.int, .int, .int, .sl [.sl [.int], .sl [.int], .sl [.int]], .sl [.int]] : List Sh)[i]? = some s → HasD x s := fun i x s hx hs => by
      have hi : i < cs.toList.length := by rw [← h2]; exact (List.getElem?_eq_some_iff.1 hs).1
      obtain ⟨d', e1, _, e3⟩ := h3 i _ s (List.getElem?_eq_getElem hi) hs
      rw [hx] at e1
      simp only [Option.some.injEq] at e1
      subst e1
      exact e3
    obtain ⟨k, rfl, hk⟩ := hasD_int (get 0 _ _ rfl rfl)
    obtain ⟨p, rfl, hp⟩ := hasD_int (get 1 _ _ rfl rfl)
    obtain ⟨n, rfl, hn⟩ := hasD_int (get 2 _ _ rfl rfl)
    obtain ⟨ts, rfl, hl, ht⟩ := hasD_tens (get 3 _ _ rfl rfl)
    obtain ⟨os, rfl, ho⟩ := hasD_ints (get 4 _ _ rfl rfl)
    exact ⟨⟨k, p, n, ts, os⟩, hrel, ⟨hk, hp, hn, hl, ht, ho⟩⟩
end
theorem szNet_go {N : Net} {left : Int} (h : NSz 9223372036854775807 N) (hl : left ≤ 1048576) (hs : ¬ szNet N left < 0) : NSz 1048576 N ∧ (N.ts.length + totT N.ts + N.os.length : Int) ≤ left ∧ szNet N left = left - (N.ts.length + totT N.ts + N.os.length) := by
  have hs' := hs
  unfold szNet at hs'
  have hb : (N.ts.length + totT N.ts + N.os.length : Int) ≤ left := by split at hs' <;> omega
  refine ⟨⟨h.k, h.p, h.n, by omega, fun t ht => ?_, ⟨by omega, h.o.wf⟩⟩, hb, by unfold szNet; rw [if_neg (by omega)]⟩
  have h1 := totT_mem ht
  unfold lenT at h1
  have h2 := h.t t ht
  exact ⟨⟨by omega, h2.l.wf⟩, ⟨by omega, h2.d.wf⟩, ⟨by omega, h2.x.wf⟩⟩
end Go.Proofs.Ytjncdanegoileaa

/-
  Lists of steps among the arguments, opened as plain data. No condition.
-/
namespace Go.Proofs.Ytjncdanegoileaa
open Go.RowKit Go.Lift Go.ChangeShapes Go.WideShapes Plain
set_option maxRecDepth 100000

theorem getD_int2 : ∀ i : Nat, ([.int, .int] : List Sh).getD i .int = .int
  | 0 => rfl
  | 1 => rfl
  | _ + 2 => rfl
theorem hasDL_int2 : ∀ {l : List D} {j : Nat}, HasDL l j [.int, .int] → ∃ xs : List Int, l = dv xs ∧ ∀ x ∈ xs, I64 x
  | [], _, _ => ⟨[], rfl, by simp⟩
  | x :: l, j, h => by
    simp only [HasDL, getD_int2] at h
    obtain ⟨n, rfl, hn⟩ := hasD_int h.1
    obtain ⟨xs, rfl, hx⟩ := hasDL_int2 h.2
    exact ⟨n :: xs, rfl, by simpa using ⟨hn, hx⟩⟩
theorem hasD_stp {d : D} (h : HasD d (.sl [.int, .int])) : ∃ (n : Nat) (F : List Int), d = stp n F ∧ StpSz 9223372036854775807 n F := by
  cases d <;> simp only [HasD] at h
  obtain ⟨h1, h2, h3⟩ := h
  obtain ⟨xs, rfl, hx⟩ := hasDL_int2 h3
  exact ⟨_, xs, rfl, by simpa [dv] using h2, h1, hx⟩
/-- An argument reads as a list of steps. -/
structure StpIn (w : World) (v : Value) (n : Nat) (F : List Int) : Prop where
  rel : Rel w (topL w) id (at_ []) (.d (stp n F)) v
  sz : StpSz 9223372036854775807 n F
section
variable {H : Type} {enc : TypeId × Value → H} {w : World} {base : Nat} {held : Bool} {r : Reach}
theorem open_steps {b0 : Nat} {v : Value} {d : DataW H} {p : List MemPlace} (hv : Value.okWide Try.prog w r b0 55 v) (h : DataW.Trod enc Try.prog w base (fun _ => true) held 55 v d p) :
    ∃ n F, StpIn w v n F := by
  obtain ⟨A, n, c, rfl⟩ := okWide_slice Try.underlying55 hv
  obtain ⟨fuel, hf⟩ := h
  obtain ⟨ds, hR⟩ := reads_of 5 55 [.sl [.int, .int]] (by kernel_rfl) fuel [.slice A n c] _ hf (by kernel_rfl)
  obtain ⟨h1, h2, h3⟩ := hR
  match ds, h1 with
  | [d0], _ =>
    obtain ⟨d', e1, e2, e3⟩ := h3 0 _ (.sl [.int, .int]) rfl rfl
    simp only [List.getElem?_cons_zero, Option.some.injEq] at e1
    subst e1
    obtain ⟨n', F, rfl, hs⟩ := hasD_stp e3
    exact ⟨n', F, by rw [Rel]; exact e2, hs⟩
end
end Go.Proofs.Ytjncdanegoileaa

/-
  The law of OrderPeak: it returns true. No condition.
-/
namespace Go.Proofs.Ytjncdanegoileaa
open Go.RowKit Go.Lift Plain
set_option linter.unusedSimpArgs false
set_option linter.unusedVariables false
set_option maxRecDepth 100000

set_option maxHeartbeats 1600000 in
theorem lawOrderPeak_d {N : Net} {n_F : Nat} {F : List Int} (z_N : NSz 9223372036854775807 N) (z_F : StpSz 9223372036854775807 n_F F) :
    Does Try.prog 6 [netA N, .d (stp n_F F)] [] (.d (.bool true)) [] := by
  (refine spec_of (by kernel_rfl) Try.func6 k_laws_FnExactOrderPeak (fnOk (Nat.le_of_ble_eq_true rfl) ?_); unfold C_laws_FnExactOrderPeak)
  (simp only [Nat.reduceSub, List.length_cons, List.length_nil, Nat.reduceAdd, ch_init1, ch_init2, ch_init3, ch_init4, ch_init5, ch_init6, ch_init7, ch_init8]; try simp only [ch_rep]); (simp only [go_sem, seval, reduceCtorEq, List.replicate])
  (refine ti_call (szNetwork_d (N := N) (left := 1048576) z_N (by omega)) ?_ ?_ ?_; (focus (simp only [go_sem, seval, reduceCtorEq]; done)); (first | rfl | (focus (simp only [go_sem]; done))))
  simp only [go_sem, seval, reduceCtorEq]
  by_cases b1 : szNet N 1048576 < 0
  · simp only [go_sem, seval, reduceCtorEq, b1]
    (refine FnEnd.mk (Nat.le_of_ble_eq_true rfl) rfl (of_decide_eq_true rfl) ?_ ?_ <;> try simp only [go_sem, seval, reduceCtorEq])
  simp only [go_sem, seval, reduceCtorEq, b1]
  obtain ⟨h_N, q1, e1⟩ := szNet_go z_N (by omega) b1
  (refine ti_call (szStepS_d (n := n_F) (F := F) (left := szNet N 1048576) (by have := z_F.n; omega) (by omega)) ?_ ?_ ?_; (focus (simp only [go_sem, seval, reduceCtorEq]; done)); (first | rfl | (focus (simp only [go_sem]; done))))
  simp only [go_sem, seval, reduceCtorEq]
  by_cases b2 : szStp n_F (szNet N 1048576) < 0
  · simp only [go_sem, seval, reduceCtorEq, b2]
    (refine FnEnd.mk (Nat.le_of_ble_eq_true rfl) rfl (of_decide_eq_true rfl) ?_ ?_ <;> try simp only [go_sem, seval, reduceCtorEq])
  simp only [go_sem, seval, reduceCtorEq, b2]
  have q2 : (n_F : Int) ≤ szNet N 1048576 ∧ szStp n_F (szNet N 1048576) = szNet N 1048576 - n_F := by have hb := b2; unfold szStp at hb ⊢; split at hb <;> (first | (exfalso; omega) | (rename_i hc; rw [if_neg hc]; omega))
  have h_F : StpSz 1048576 n_F F := ⟨z_F.l, by omega, z_F.wf⟩
  (refine ti_call (toNetwork_d (N := N) h_N) ?_ ?_ ?_; (focus (simp only [go_sem, seval, reduceCtorEq]; done)); (first | rfl | (focus (simp only [go_sem]; done))))
  simp only [go_sem, seval, reduceCtorEq]
  (refine ti_call (toStepS_d (n := n_F) (F := F) h_F) ?_ ?_ ?_; (focus (simp only [go_sem, seval, reduceCtorEq]; done)); (first | rfl | (focus (simp only [go_sem]; done))))
  simp only [go_sem, seval, reduceCtorEq]
  (refine ti_call (sOrderPeak_d h_N h_F) ?_ ?_ ?_; (focus (simp only [go_sem, seval, reduceCtorEq, stp_all h_F]; done)); (first | rfl | (focus (simp only [go_sem]; done))))
  simp only [go_sem, seval, reduceCtorEq]
  (refine ti_call (toNetwork_d (N := N) h_N) ?_ ?_ ?_; (focus (simp only [go_sem, seval, reduceCtorEq]; done)); (first | rfl | (focus (simp only [go_sem]; done))))
  simp only [go_sem, seval, reduceCtorEq]
  (refine ti_call (toStepS_d (n := n_F) (F := F) h_F) ?_ ?_ ?_; (focus (simp only [go_sem, seval, reduceCtorEq]; done)); (first | rfl | (focus (simp only [go_sem]; done))))
  simp only [go_sem, seval, reduceCtorEq]
  (refine ti_call (iOrderPeak_d h_N h_F) ?_ ?_ ?_; (focus (simp only [go_sem, seval, reduceCtorEq, stp_all h_F]; done)); (first | rfl | (focus (simp only [go_sem]; done))))
  simp only [go_sem, seval, reduceCtorEq]
  (refine gi_call (toNetwork_d (N := N) h_N) ?_ ?_ ?_; (focus (simp only [go_sem, seval, reduceCtorEq]; done)); (first | rfl | (focus (simp only [go_sem]; done))))
  simp only [go_sem, seval, reduceCtorEq]
  (refine ti_call (eqNetwork_d (N := N) h_N) ?_ ?_ ?_; (focus (simp only [go_sem, seval, reduceCtorEq]; done)); (first | rfl | (focus (simp only [go_sem]; done))))
  simp only [go_sem, seval, reduceCtorEq]
  (refine ti_call (toStepS_d (n := n_F) (F := F) h_F) ?_ ?_ ?_; (focus (simp only [go_sem, seval, reduceCtorEq]; done)); (first | rfl | (focus (simp only [go_sem]; done))))
  simp only [go_sem, seval, reduceCtorEq]
  (refine ti_call (eqStepS_d (n := n_F) (F := F) h_F) ?_ ?_ ?_; (focus (simp only [go_sem, seval, reduceCtorEq, stp_all h_F]; done)); (first | rfl | (focus (simp only [go_sem]; done))))
  simp only [go_sem, seval, reduceCtorEq]
  (refine FnEnd.mk (Nat.le_of_ble_eq_true rfl) rfl (of_decide_eq_true rfl) ?_ ?_ <;> try simp only [go_sem, seval, reduceCtorEq])
theorem law_OrderPeak (W : World) {v0 : Value} {N : Net} {v1 : Value} {n_F : Nat} {F : List Int} (w0 : NetIn W v0 N) (w1 : StpIn W v1 n_F F) :
    Calls Try.prog 6 #[v0, v1] W (RetV W (.bool true)) := by
  refine Does.calls (lawOrderPeak_d w0.sz w1.sz) W [_, _] ?_
  simp only [RelL]
  exact ⟨_, _, rfl, w0.rel, _, _, rfl, w1.rel, rfl⟩
end Go.Proofs.Ytjncdanegoileaa
