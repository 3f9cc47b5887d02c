/-
  Contracts: ContractPair, by the reference and by the program. No condition.
-/
import Derived.Test.YtcgnehacihjnkaaCodeLContractPair
import Derived.Test.YtcgnehacihjnkaaConT
namespace Go.Proofs.Ytcgnehacihjnkaa
open Go.RowKit Go.Lift Plain
set_option linter.unusedSimpArgs false
set_option linter.unusedVariables false
set_option maxRecDepth 100000

theorem sContractPair_d {kk pp nn : Int} {a b : Ten} {keep : List Int} (za : I64 kk) (zb : I64 pp) (zc : I64 nn) (ha : TSz 1048576 a) (hb : TSz 1048576 b) (hk : Sz 1048576 keep) :
    Does Try.prog 57 [ringA kk pp nn, tenA a, tenA b, .d (ints keep)] [] (.tup [ownT 0 (conT ⟨kk, pp, nn⟩ a b keep), .d (.bool (conB ⟨kk, pp, nn⟩ a b keep))]) (stoF (conT ⟨kk, pp, nn⟩ a b keep)) := by
  have hno : conB ⟨kk, pp, nn⟩ a b keep = false → conT ⟨kk, pp, nn⟩ a b keep = ⟨[], [], []⟩ := conT_no
  (refine spec_of (by kernel_rfl) Try.func57 k_spec_ContractPair (fnOk (Nat.le_of_ble_eq_true rfl) ?_); unfold C_spec_ContractPair)
  (simp only [Nat.reduceSub, List.length_cons, List.length_nil, Nat.reduceAdd, ch_init1, ch_init2, ch_init3, ch_init4, ch_init5, ch_init6, ch_init7, ch_init8]; try simp only [ch_rep]); (simp only [go_sem, seval, reduceCtorEq, List.replicate])
  (refine ti_call (sTensorOk_d (t := a) za zb zc ha.up) ?_ ?_ ?_; (focus (simp only [go_sem, seval, reduceCtorEq]; done)); (first | rfl | (focus (simp only [go_sem]; done))))
  cases h1 : tensorOk ⟨kk, pp, nn⟩ a.labels a.dims a.data
  · have e : conB ⟨kk, pp, nn⟩ a b keep = false := by simp only [conB, h1, Bool.false_and]
    simp only [go_sem, seval, reduceCtorEq, h1, e, hno e]
    refine FnEnd.wk (Wk.trans (Wk.nilS 3 0 1 _ _ _ rfl rfl) (Wk.trans (Wk.nilS 3 1 1 _ _ _ rfl rfl) (Wk.trans (Wk.nilS 3 2 1 _ _ _ rfl rfl) Wk.nogA))) ?_
    (refine FnEnd.mk (Nat.le_of_ble_eq_true rfl) rfl (of_decide_eq_true rfl) ?_ ?_ <;> try simp only [go_sem, seval, reduceCtorEq])
  simp only [go_sem, seval, reduceCtorEq, h1]
  (refine ti_call (sTensorOk_d (t := b) za zb zc hb.up) ?_ ?_ ?_; (focus (simp only [go_sem, seval, reduceCtorEq]; done)); (first | rfl | (focus (simp only [go_sem]; done))))
  cases h2 : tensorOk ⟨kk, pp, nn⟩ b.labels b.dims b.data
  · have e : conB ⟨kk, pp, nn⟩ a b keep = false := by simp only [conB, h2, Bool.false_and, Bool.and_false]
    simp only [go_sem, seval, reduceCtorEq, h2, e, hno e]
    refine FnEnd.wk (Wk.trans (Wk.nilS 3 0 1 _ _ _ rfl rfl) (Wk.trans (Wk.nilS 3 1 1 _ _ _ rfl rfl) (Wk.trans (Wk.nilS 3 2 1 _ _ _ rfl rfl) Wk.nogA))) ?_
    (refine FnEnd.mk (Nat.le_of_ble_eq_true rfl) rfl (of_decide_eq_true rfl) ?_ ?_ <;> try simp only [go_sem, seval, reduceCtorEq])
  simp only [go_sem, seval, reduceCtorEq, h2]
  (refine ti_call (l08Fits_d ha hb hk h1 h2) ?_ ?_ ?_; (focus (simp only [go_sem, seval, reduceCtorEq]; done)); (first | rfl | (focus (simp only [go_sem]; done))))
  cases h3 : conB ⟨kk, pp, nn⟩ a b keep
  · simp only [go_sem, seval, reduceCtorEq, h3, hno h3]
    refine FnEnd.wk (Wk.trans (Wk.nilS 3 0 1 _ _ _ rfl rfl) (Wk.trans (Wk.nilS 3 1 1 _ _ _ rfl rfl) (Wk.trans (Wk.nilS 3 2 1 _ _ _ rfl rfl) Wk.nogA))) ?_
    (refine FnEnd.mk (Nat.le_of_ble_eq_true rfl) rfl (of_decide_eq_true rfl) ?_ ?_ <;> try simp only [go_sem, seval, reduceCtorEq])
  obtain ⟨wd, na, nb, n, N, h⟩ := conOk_of h3
  simp only [go_sem, seval, reduceCtorEq, h3, conT_yes h3 h]
  (refine ti_call (l08Pair_d h ha hb hk) ?_ ?_ ?_; (focus (simp only [go_sem, seval, reduceCtorEq]; done)); (first | rfl | (focus (simp only [go_sem]; done))))
  simp only [go_sem, seval, reduceCtorEq]
  (refine FnEnd.mk (Nat.le_of_ble_eq_true rfl) rfl (of_decide_eq_true rfl) ?_ ?_ <;> try simp only [go_sem, seval, reduceCtorEq])
theorem fillTensor_f {kk pp nn : Int} {wd n : Nat} {ls ds z : List Int} (hz : z.length = wd) (h1 : 1 ≤ wd ∧ wd ≤ 6) (hls : ls.length ≤ 1048576) (hds : ds.length ≤ 1048576) (hd : ∀ d ∈ ds, 1 ≤ d) (hn : prodI ds = n) (hn2 : n ≤ 4096) :
    Does Try.prog 129 [ringA kk pp nn, .d (ints ls), .d (ints ds), .d (ints z)] [] (ownT 0 ⟨ls, ds, repE z n⟩) (stoF ⟨ls, ds, repE z n⟩) := (fillTensor_d hz h1 hls hds hd hn hn2).nog [0, 1, 2] rfl
def conX (r : Rg) (wd : Nat) (a b : Ten) : Nat → List Int
  | 0 => List.replicate wd 0
  | i + 1 => conE r wd a b i
theorem conX_len {r : Rg} {a b : Ten} {keep : List Int} {wd na nb n N : Nat} (h : ConOk r a b keep wd na nb n N) : ∀ i, (conX r wd a b i).length = wd
  | 0 => by simp [conX]
  | i + 1 => h.el i
theorem putE_all {xs ys : List Int} (h : xs.length = ys.length) : putE xs 0 ys = ys := by simp [putE, h]
set_option maxHeartbeats 2000000 in
theorem iContractPair_d {kk pp nn : Int} {a b : Ten} {keep : List Int} (za : I64 kk) (zb : I64 pp) (zc : I64 nn) (ha : TSz 1048576 a) (hb : TSz 1048576 b) (hk : Sz 1048576 keep) :
    Does Try.prog 58 [ringA kk pp nn, tenA a, tenA b, .d (ints keep)] [] (.tup [ownT 0 (conT ⟨kk, pp, nn⟩ a b keep), .d (.bool (conB ⟨kk, pp, nn⟩ a b keep))]) (stoF (conT ⟨kk, pp, nn⟩ a b keep)) := by
  have hno : conB ⟨kk, pp, nn⟩ a b keep = false → conT ⟨kk, pp, nn⟩ a b keep = ⟨[], [], []⟩ := conT_no
  have hkl := hk.len
  (refine spec_of (by kernel_rfl) Try.func58 k_impl_ContractPair (fnOk (Nat.le_of_ble_eq_true rfl) ?_); unfold C_impl_ContractPair)
  (simp only [Nat.reduceSub, List.length_cons, List.length_nil, Nat.reduceAdd, ch_init1, ch_init2, ch_init3, ch_init4, ch_init5, ch_init6, ch_init7, ch_init8]; try simp only [ch_rep]); (simp only [go_sem, seval, reduceCtorEq, List.replicate])
  (refine ti_call (iTensorOk_d (t := a) za zb zc ha.up) ?_ ?_ ?_; (focus (simp only [go_sem, seval, reduceCtorEq]; done)); (first | rfl | (focus (simp only [go_sem]; done))))
  cases h1 : tensorOk ⟨kk, pp, nn⟩ a.labels a.dims a.data
  · have e : conB ⟨kk, pp, nn⟩ a b keep = false := by simp only [conB, h1, Bool.false_and]
    simp only [go_sem, seval, reduceCtorEq, h1, e, hno e]
    refine FnEnd.wk (Wk.trans (Wk.nilS 3 0 1 _ _ _ rfl rfl) (Wk.trans (Wk.nilS 3 1 1 _ _ _ rfl rfl) (Wk.trans (Wk.nilS 3 2 1 _ _ _ rfl rfl) Wk.nogA))) ?_
    (refine FnEnd.mk (Nat.le_of_ble_eq_true rfl) rfl (of_decide_eq_true rfl) ?_ ?_ <;> try simp only [go_sem, seval, reduceCtorEq])
  simp only [go_sem, seval, reduceCtorEq, h1]
  (refine ti_call (iTensorOk_d (t := b) za zb zc hb.up) ?_ ?_ ?_; (focus (simp only [go_sem, seval, reduceCtorEq]; done)); (first | rfl | (focus (simp only [go_sem]; done))))
  cases h2 : tensorOk ⟨kk, pp, nn⟩ b.labels b.dims b.data
  · have e : conB ⟨kk, pp, nn⟩ a b keep = false := by simp only [conB, h2, Bool.false_and, Bool.and_false]
    simp only [go_sem, seval, reduceCtorEq, h2, e, hno e]
    refine FnEnd.wk (Wk.trans (Wk.nilS 3 0 1 _ _ _ rfl rfl) (Wk.trans (Wk.nilS 3 1 1 _ _ _ rfl rfl) (Wk.trans (Wk.nilS 3 2 1 _ _ _ rfl rfl) Wk.nogA))) ?_
    (refine FnEnd.mk (Nat.le_of_ble_eq_true rfl) rfl (of_decide_eq_true rfl) ?_ ?_ <;> try simp only [go_sem, seval, reduceCtorEq])
  simp only [go_sem, seval, reduceCtorEq, h2]
  obtain ⟨wa, na, a1, a2, a3, a4, a5, a6, a7, a8, a9, a10⟩ := ten_facts h1
  obtain ⟨wb, nb, b1, b2, b3, b4, b5, b6, b7, b8, b9, b10⟩ := ten_facts h2
  have hll := joinL_len a.labels b.labels
  have l1 := a10.1
  have l2 := b10.1
  have hjd := joinD_len a b
  have hpj := joinD_prod a10 b10 (by omega) (by omega)
  cases hj : joinOk a b
  · have e : conB ⟨kk, pp, nn⟩ a b keep = false := by simp only [conB, hj, Bool.and_false, Bool.false_and]
    (refine ti_call (joinAxes_no a10 b10 hj) ?_ ?_ ?_; (focus (simp only [go_sem, seval, reduceCtorEq]; done)); (first | rfl | (focus (simp only [go_sem]; done))))
    simp only [go_sem, seval, reduceCtorEq, e, hno e]
    refine FnEnd.wk (Wk.trans (Wk.nilS 3 0 1 _ _ _ rfl rfl) (Wk.trans (Wk.nilS 3 1 1 _ _ _ rfl rfl) (Wk.trans (Wk.nilS 3 2 1 _ _ _ rfl rfl) Wk.nogA))) ?_
    (refine FnEnd.mk (Nat.le_of_ble_eq_true rfl) rfl (of_decide_eq_true rfl) ?_ ?_ <;> try simp only [go_sem, seval, reduceCtorEq])
  (refine ti_call (joinAxes_d a10 b10 hj) ?_ ?_ ?_; (focus (simp only [go_sem, seval, reduceCtorEq]; done)); (first | rfl | (focus (simp only [go_sem]; done))))
  have htj : List.take (joinL a.labels b.labels).length (joinD a b) = joinD a b := List.take_of_length_le (by omega)
  simp only [go_sem, seval, reduceCtorEq]
  (refine ti_call (productOf_d (ds := joinD a b) (by omega) (fun d hd => (joinD_bd a10 b10 d hd).1) (by omega)) ?_ ?_ ?_; (focus (simp only [go_sem, seval, reduceCtorEq, hjd, htj]; done)); (first | rfl | (focus (simp only [go_sem]; done))))
  by_cases hp : prodI (joinD a b) ≤ 65536
  rotate_left
  · have e : conB ⟨kk, pp, nn⟩ a b keep = false := by rw [conB, decide_eq_false hp]; simp
    have c : prodI (joinD a b) > 65536 := by omega
    simp only [go_sem, seval, reduceCtorEq, c, e, hno e]
    refine FnEnd.wk (Wk.trans (Wk.nilS 3 0 1 _ _ _ rfl rfl) (Wk.trans (Wk.nilS 3 1 1 _ _ _ rfl rfl) (Wk.trans (Wk.nilS 3 2 1 _ _ _ rfl rfl) Wk.nogA))) ?_
    (refine FnEnd.mk (Nat.le_of_ble_eq_true rfl) rfl (of_decide_eq_true rfl) ?_ ?_ <;> try simp only [go_sem, seval, reduceCtorEq])
  have c : ¬ prodI (joinD a b) > 65536 := by omega
  simp only [go_sem, seval, reduceCtorEq, c]
  (refine ti_call (keptOnly_d (ls := joinL a.labels b.labels) (keep := keep) (by omega) hkl) ?_ ?_ ?_; (focus (simp only [go_sem, seval, reduceCtorEq]; done)); (first | rfl | (focus (simp only [go_sem]; done))))
  have hfl : (conK a b keep).length ≤ 24 := by
    have := filter_len (joinL a.labels b.labels) (joinL a.labels b.labels).length (has keep)
    rw [List.take_length] at this
    show ((joinL a.labels b.labels).filter (has keep)).length ≤ 24
    omega
  have hcl : (conD a b keep).length = (conK a b keep).length := List.length_map ..
  have hnd : (conL a b).Nodup := joinL_nd (axOk_nodup a10) (axOk_nodup b10)
  rw [show (joinL a.labels b.labels).filter (has keep) = conK a b keep from rfl, show joinL a.labels b.labels = conL a b from rfl]
  rw [show joinL a.labels b.labels = conL a b from rfl] at hll hjd htj
  simp (disch := omega) only [go_sem, seval, reduceCtorEq]
  refine ⟨by omega, ?_⟩
  refine wpN_lp ((conK a b keep).length) [false, false, false, false, false, false, false, false, false, false, false, false, false, false, false, true, true, true, true, false, false, false, false, false, false, false, false, false, false, false, false, false, false, false, false, false, false, false, false, false, false, false, false, false, false, false, false, false, false, false, false, false, false, false, false, false, false, false, false, false, false, true, true, true, true, true, true, true, true, true, true, true, true, true, true, true, true, true, true, true, true, true, true, true, true, false, false, false, false, false, false, false, false, false, false, false, false, false, false, false, false, false, false, false, false, false, false, false, false, false, false, false, false, false, false, false, false, false, false, false, false, false, false, false, false, false, false, false, false, false, false, false, false, false, false, false, false, false, false, false, false] (fun k => [(60, .d (.int k))]) (fun k => [(7, iv (mix (conD a b keep) (List.replicate (conK a b keep).length 0) k))]) (fun _ => by (simp only [go_sem, seval, reduceCtorEq, dropF_ch, dropF_cons, dropF_nil, cut, cond_true, cond_false]); first | done | rfl) (fun _ => by (simp only [go_sem, seval, reduceCtorEq, cut]); first | done | rfl) (Nat.le_of_ble_eq_true rfl) (by first | (simp only [go_sem, seval, reduceCtorEq, dropF_ch, dropF_cons, dropF_nil, cut, cond_true, cond_false, Int.natCast_zero, Int.natCast_add, Int.natCast_one, mix_zero]; done) | rfl | (simp only [go_sem, seval, reduceCtorEq, dropF_ch, dropF_cons, dropF_nil, cut, cond_true, cond_false, Int.natCast_zero, Int.natCast_add, Int.natCast_one, mix_zero]; rfl)) (by first | (simp only [go_sem, seval, reduceCtorEq, dropF_ch, dropF_cons, dropF_nil, cut, cond_true, cond_false, Int.natCast_zero, Int.natCast_add, Int.natCast_one, mix_zero]; done) | rfl | (simp only [go_sem, seval, reduceCtorEq, dropF_ch, dropF_cons, dropF_nil, cut, cond_true, cond_false, Int.natCast_zero, Int.natCast_add, Int.natCast_one, mix_zero]; rfl)) fun k hk => ?_
  unfold L2_impl_ContractPair
  have hmz : (conD a b keep).length = (List.replicate (conK a b keep).length (0 : Int)).length := by simp [hcl]
  by_cases hlt : k < (conK a b keep).length
  · have d1 : (k : Int) < (conK a b keep).length := by omega
    have g : (conK a b keep)[k]? = some (conK a b keep)[k] := List.getElem?_eq_getElem hlt
    have hKm : (conK a b keep)[k] ∈ conL a b := (List.mem_filter.1 (List.getElem_mem hlt)).1
    simp (disch := omega) only [go_sem, seval, reduceCtorEq, d1, g]
    refine wpN_lp ((conL a b).length) [false, false, false, false, false, false, false, false, false, false, false, false, false, false, false, false, false, true, true, false, false, false, false, false, false, false, false, false, false, false, false, false, false, false, false, false, false, false, false, false, false, false, false, false, false, false, false, false, false, false, false, false, false, false, false, false, false, false, false, false, false, false, false, false, false, false, false, false, true, true, true, true, true, true, true, true, true, true, true, true, true, true, true, true, false, false, false, false, false, false, false, false, false, false, false, false, false, false, false, false, false, false, false, false, false, false, false, false, false, false, false, false, false, false, false, false, false, false, false, false, false, false, false, false, false, false, false, false, false, false, false, false, false, false, false, false, false, false, false, false, false] (fun q => [(67, .d (.int q))]) (fun q => [(7, iv (mix (conD a b keep) (List.replicate (conK a b keep).length 0) (if (conK a b keep)[k] ∈ (conL a b).take q then k + 1 else k)))]) (fun _ => by (simp only [go_sem, seval, reduceCtorEq, dropF_ch, dropF_cons, dropF_nil, cut, cond_true, cond_false]); first | done | rfl) (fun _ => by (simp only [go_sem, seval, reduceCtorEq, cut]); first | done | rfl) (Nat.le_of_ble_eq_true rfl) (by first | (simp only [go_sem, seval, reduceCtorEq, dropF_ch, dropF_cons, dropF_nil, cut, cond_true, cond_false, Int.natCast_zero, Int.natCast_add, Int.natCast_one, List.take_zero, List.not_mem_nil, if_false]; done) | rfl | (simp only [go_sem, seval, reduceCtorEq, dropF_ch, dropF_cons, dropF_nil, cut, cond_true, cond_false, Int.natCast_zero, Int.natCast_add, Int.natCast_one, List.take_zero, List.not_mem_nil, if_false]; rfl)) (by first | (simp only [go_sem, seval, reduceCtorEq, dropF_ch, dropF_cons, dropF_nil, cut, cond_true, cond_false, Int.natCast_zero, Int.natCast_add, Int.natCast_one, List.take_zero, List.not_mem_nil, if_false]; done) | rfl | (simp only [go_sem, seval, reduceCtorEq, dropF_ch, dropF_cons, dropF_nil, cut, cond_true, cond_false, Int.natCast_zero, Int.natCast_add, Int.natCast_one, List.take_zero, List.not_mem_nil, if_false]; rfl)) fun q hq => ?_
    unfold L1_impl_ContractPair
    by_cases hltq : q < (conL a b).length
    · have d2 : (q : Int) < (conL a b).length := by omega
      have d3 : (q : Int) < (joinD a b).length := by omega
      have gq : (conL a b)[q]? = some (conL a b)[q] := List.getElem?_eq_getElem hltq
      have gd : (joinD a b)[q]? = some ((joinD a b).getD q 0) := by rw [getD_of (by omega)]; exact List.getElem?_eq_getElem (by omega)
      have hfr := fresh_of hnd hltq
      by_cases hx : (conL a b)[q] = (conK a b keep)[k]
      · have hxe : ((conL a b)[q] == (conK a b keep)[k]) = true := by simp [hx]
        have e0 : ¬ (conK a b keep)[k] ∈ (conL a b).take q := by rw [← hx]; exact hfr
        have e1 : (conK a b keep)[k] ∈ (conL a b).take (q + 1) := by rw [take_ss hltq]; exact List.mem_append_right _ (by rw [hx]; exact List.mem_singleton_self _)
        have hml := mix_len (k := k) hmz
        have hmn := mix_next (k := k) hmz (show (conD a b keep)[k]? = some ((joinD a b).getD q 0) by
          rw [← dAt_at hnd hltq, hx, conD, List.getElem?_map, g]; rfl)
        simp (disch := omega) only [go_sem, seval, reduceCtorEq, d2, gq, hxe, d1, d3, gd, e0]
        refine ⟨by omega, ?_⟩
        (refine Next.drop [false, false, false, false, false, false, false, false, false, false, false, false, false, false, false, false, false, true, true, false, false, false, false, false, false, false, false, false, false, false, false, false, false, false, false, false, false, false, false, false, false, false, false, false, false, false, false, false, false, false, false, false, false, false, false, false, false, false, false, false, false, false, false, false, false, false, false, false, true, true, true, true, true, true, true, true, true, true, true, true, true, true, true, true, false, false, false, false, false, false, false, false, false, false, false, false, false, false, false, false, false, false, false, false, false, false, false, false, false, false, false, false, false, false, false, false, false, false, false, false, false, false, false, false, false, false, false, false, false, false, false, false, false, false, false, false, false, false, false, false, false] (by omega) (Nat.le_of_ble_eq_true rfl) ?_ ?_ <;> first | (simp only [go_sem, seval, reduceCtorEq, dropF_ch, dropF_cons, dropF_nil, cut, cond_true, cond_false, Int.natCast_zero, Int.natCast_add, Int.natCast_one, hmn, e1]; done) | rfl | (simp only [go_sem, seval, reduceCtorEq, dropF_ch, dropF_cons, dropF_nil, cut, cond_true, cond_false, Int.natCast_zero, Int.natCast_add, Int.natCast_one, hmn, e1]; rfl) | skip)
      · have hxe : ((conL a b)[q] == (conK a b keep)[k]) = false := by simp [hx]
        have e1 : ((conK a b keep)[k] ∈ (conL a b).take (q + 1)) = ((conK a b keep)[k] ∈ (conL a b).take q) := by
          rw [take_ss hltq, List.mem_append, List.mem_singleton, eq_iff_iff]
          exact ⟨fun h => h.resolve_right (fun e => hx e.symm), .inl⟩
        simp (disch := omega) only [go_sem, seval, reduceCtorEq, d2, gq, hxe]
        (refine Next.drop [false, false, false, false, false, false, false, false, false, false, false, false, false, false, false, false, false, true, true, false, false, false, false, false, false, false, false, false, false, false, false, false, false, false, false, false, false, false, false, false, false, false, false, false, false, false, false, false, false, false, false, false, false, false, false, false, false, false, false, false, false, false, false, false, false, false, false, false, true, true, true, true, true, true, true, true, true, true, true, true, true, true, true, true, false, false, false, false, false, false, false, false, false, false, false, false, false, false, false, false, false, false, false, false, false, false, false, false, false, false, false, false, false, false, false, false, false, false, false, false, false, false, false, false, false, false, false, false, false, false, false, false, false, false, false, false, false, false, false, false, false] (by omega) (Nat.le_of_ble_eq_true rfl) ?_ ?_ <;> first | (simp only [go_sem, seval, reduceCtorEq, dropF_ch, dropF_cons, dropF_nil, cut, cond_true, cond_false, Int.natCast_zero, Int.natCast_add, Int.natCast_one, e1]; done) | rfl | (simp only [go_sem, seval, reduceCtorEq, dropF_ch, dropF_cons, dropF_nil, cut, cond_true, cond_false, Int.natCast_zero, Int.natCast_add, Int.natCast_one, e1]; rfl) | skip)
    · have d2 : ¬ (q : Int) < (conL a b).length := by omega
      have htq : List.take q (conL a b) = conL a b := List.take_of_length_le (by omega)
      simp (disch := omega) only [go_sem, seval, reduceCtorEq, d2, htq, hKm]
      (refine Next.drop [false, false, false, false, false, false, false, false, false, false, false, false, false, false, false, true, true, true, true, false, false, false, false, false, false, false, false, false, false, false, false, false, false, false, false, false, false, false, false, false, false, false, false, false, false, false, false, false, false, false, false, false, false, false, false, false, false, false, false, false, false, true, true, true, true, true, true, true, true, true, true, true, true, true, true, true, true, true, true, true, true, true, true, true, true, false, false, false, false, false, false, false, false, false, false, false, false, false, false, false, false, false, false, false, false, false, false, false, false, false, false, false, false, false, false, false, false, false, false, false, false, false, false, false, false, false, false, false, false, false, false, false, false, false, false, false, false, false, false, false, false] (by omega) (Nat.le_of_ble_eq_true rfl) ?_ ?_ <;> first | (simp only [go_sem, seval, reduceCtorEq, dropF_ch, dropF_cons, dropF_nil, cut, cond_true, cond_false, Int.natCast_zero, Int.natCast_add, Int.natCast_one]; done) | rfl | (simp only [go_sem, seval, reduceCtorEq, dropF_ch, dropF_cons, dropF_nil, cut, cond_true, cond_false, Int.natCast_zero, Int.natCast_add, Int.natCast_one]; rfl) | skip)
  · have d1 : ¬ (k : Int) < (conK a b keep).length := by omega
    have hf : mix (conD a b keep) (List.replicate (conK a b keep).length 0) k = conD a b keep := mix_full (by simp; omega) (by omega)
    have htk : List.take (conK a b keep).length (conD a b keep) = conD a b keep := List.take_of_length_le (by omega)
    simp (disch := omega) only [go_sem, seval, reduceCtorEq, d1, hf]
    (refine ti_call (iTensorSize_d (t := ⟨conK a b keep, conD a b keep, []⟩) (conKD_sz (keep := keep) a10 b10 ha hb sz_nil).up) ?_ ?_ ?_; (focus (simp only [go_sem, seval, reduceCtorEq, hcl, htk, dv_nl]; done)); (first | rfl | (focus (simp only [go_sem]; done))))
    rcases tsize_cases (conK a b keep) (conD a b keep) with hs | ⟨s1, s2, s3, s4⟩
    · have e : conB ⟨kk, pp, nn⟩ a b keep = false := by rw [conB, hs]; simp
      simp only [go_sem, seval, reduceCtorEq, hs, e, hno e]
      refine FnEnd.wk (Wk.trans (Wk.nilS 3 0 1 _ _ _ rfl rfl) (Wk.trans (Wk.nilS 3 1 1 _ _ _ rfl rfl) (Wk.trans (Wk.nilS 3 2 1 _ _ _ rfl rfl) Wk.nogA))) ?_
      (refine FnEnd.mk (Nat.le_of_ble_eq_true rfl) rfl (of_decide_eq_true rfl) ?_ ?_ <;> try simp only [go_sem, seval, reduceCtorEq])
    have e : conB ⟨kk, pp, nn⟩ a b keep = true := by
      simp only [conB, hj, h1, h2, hp, Bool.true_and, decide_true]
      exact decide_eq_true (by omega)
    have c3 : (tsize (conK a b keep) (conD a b keep) == -1) = false := by rw [s3]; simp; omega
    obtain ⟨wd, na', nb', n, N, h⟩ := conOk_of e
    have hwb := h.wb
    have hpn := h.io.pn
    have hn1 := h.io.n1
    have hpN := h.pN
    have hN1 := h.N1
    simp only [go_sem, seval, reduceCtorEq, c3]
    (refine gi_call (rawZero_d (kk := kk) (pp := pp) (nn := nn) h.w hwb) ?_ ?_ ?_; (focus (simp only [go_sem, seval, reduceCtorEq]; done)); (first | rfl | (focus (simp only [go_sem]; done))))
    have hzt : List.take wd (zeroE kk pp wd) = zeroE kk pp wd := List.take_of_length_le (by rw [zeroE_len]; omega)
    simp only [go_sem, seval, reduceCtorEq]
    (refine ti_call (fillTensor_f (kk := kk) (pp := pp) (nn := nn) (ls := conK a b keep) (ds := conD a b keep) (zeroE_len kk pp wd) hwb (by omega) (by omega) (fun d hd => (s1.dim d hd).1) hpn hn1.2) ?_ ?_ ?_; (focus (simp only [go_sem, seval, reduceCtorEq, hcl, htk, zeroE_len, hzt]; done)); (first | rfl | (focus (simp only [go_sem]; done))))
    simp only [go_sem, seval, reduceCtorEq]
    (refine gi_call (stridesOf_d (t := a) (L := conL a b) a10 (by omega) (by omega)) ?_ ?_ ?_; (focus (simp only [go_sem, seval, reduceCtorEq]; done)); (first | rfl | (focus (simp only [go_sem]; done))))
    simp only [go_sem, seval, reduceCtorEq]
    (refine gi_call (stridesOf_d (t := b) (L := conL a b) b10 (by omega) (by omega)) ?_ ?_ ?_; (focus (simp only [go_sem, seval, reduceCtorEq]; done)); (first | rfl | (focus (simp only [go_sem]; done))))
    simp only [go_sem, seval, reduceCtorEq]
    have hzl := h.zl
    rw [show (Rg.mk kk pp nn).k = kk from rfl, show (Rg.mk kk pp nn).p = pp from rfl] at hzl
    have htz : List.take (n * wd) (repE (zeroE kk pp wd) n) = repE (zeroE kk pp wd) n := List.take_of_length_le (by omega)
    (refine ti_call (stridesOf_d (t := ⟨conK a b keep, conD a b keep, repE (zeroE kk pp wd) n⟩) (L := conL a b) h.io.ax (by show prodI (conD a b keep) ≤ 4096; omega) (by omega)) ?_ ?_ ?_; (focus (simp only [go_sem, seval, reduceCtorEq, hcl, htk, hzl, htz]; done)); (first | rfl | (focus (simp only [go_sem]; done))))
    simp (disch := omega) only [go_sem, seval, reduceCtorEq]
    refine ⟨by omega, ?_⟩
    have hw := h.w
    (refine ti_call (rawWidth_d kk pp nn) ?_ ?_ ?_; (focus (simp only [go_sem, seval, reduceCtorEq, hw]; done)); (first | rfl | (focus (simp only [go_sem]; done))))
    simp (disch := omega) only [go_sem, seval, reduceCtorEq, hw]
    refine ⟨⟨by omega, by omega⟩, ?_⟩
    have hd0 : List.replicate (conL a b).length 0 = digits (joinD a b) 0 := by rw [digits_zr, hjd]
    have hc0 : conTo ⟨kk, pp, nn⟩ wd a b keep (repE (zeroE kk pp wd) n) 0 = repE (zeroE kk pp wd) n := rfl
    have hx0 : List.replicate wd 0 = conX ⟨kk, pp, nn⟩ wd a b 0 := rfl
    have hdb : ∀ d ∈ joinD a b, 1 ≤ d ∧ d ≤ 1000 := fun d hd => by have := h.ia.dbd d hd; omega
    simp only [hd0, hx0]
    refine wpN_lpS (0) (fun i => N - i) [false, false, false, false, false, false, false, false, false, true, false, false, false, false, false, false, false, false, false, false, false, false, false, false, false, false, false, false, false, false, false, false, false, false, false, false, false, false, false, false, false, false, false, false, false, false, false, false, false, false, false, false, false, false, false, false, false, false, false, false, false, false, false, false, false, false, false, false, false, false, false, false, false, false, false, false, false, false, false, false, false, false, false, false, false, false, false, false, false, false, false, false, false, false, false, false, false, false, false, false, false, false, false, false, false, false, false, false, false, false, false, false, true, true, true, true, true, true, true, true, true, true, true, true, true, true, true, true, true, true, true, true, true, true, true, true, true, true, true, true, true] (fun i => i < N) (fun i => []) (fun i => [(12, iv (conTo ⟨kk, pp, nn⟩ wd a b keep (repE (zeroE kk pp wd) n) i)), (16, iv (digits (joinD a b) (i : Int))), (17, iv (conX ⟨kk, pp, nn⟩ wd a b i))]) (fun _ => by (simp only [go_sem, seval, reduceCtorEq, dropF_ch, dropF_cons, dropF_nil, cut, cond_true, cond_false]); first | done | rfl) (fun _ => by (simp only [go_sem, seval, reduceCtorEq, cut]); first | done | rfl) (by omega) (Nat.le_of_ble_eq_true rfl) (by first | (simp only [go_sem, seval, reduceCtorEq, dropF_ch, dropF_cons, dropF_nil, cut, cond_true, cond_false, Int.natCast_zero, Int.natCast_add, Int.natCast_one, hc0, hd0, hx0]; done) | rfl | (simp only [go_sem, seval, reduceCtorEq, dropF_ch, dropF_cons, dropF_nil, cut, cond_true, cond_false, Int.natCast_zero, Int.natCast_add, Int.natCast_one, hc0, hd0, hx0]; rfl)) (by first | (simp only [go_sem, seval, reduceCtorEq, dropF_ch, dropF_cons, dropF_nil, cut, cond_true, cond_false, Int.natCast_zero, Int.natCast_add, Int.natCast_one, hc0, hd0, hx0]; done) | rfl | (simp only [go_sem, seval, reduceCtorEq, dropF_ch, dropF_cons, dropF_nil, cut, cond_true, cond_false, Int.natCast_zero, Int.natCast_add, Int.natCast_one, hc0, hd0, hx0]; rfl)) fun i hi => ?_
    unfold L0_impl_ContractPair
    obtain ⟨htl, htf⟩ := conTo_ok h h.zl h.zf i
    rw [show (Rg.mk kk pp nn).k = kk from rfl, show (Rg.mk kk pp nn).p = pp from rfl] at htl htf
    have hxl := conX_len h i
    have hdl := digits_len (joinD a b) i
    have hdl1 := digits_len (joinD a b) (i + 1)
    have hsa : (List.map (strideL a.labels a.dims) (conL a b)).length = (conL a b).length := List.length_map ..
    have hsb : (List.map (strideL b.labels b.dims) (conL a b)).length = (conL a b).length := List.length_map ..
    have hso : (List.map (strideL (conK a b keep) (conD a b keep)) (conL a b)).length = (conL a b).length := List.length_map ..
    have ta : List.take (conL a b).length (List.map (strideL a.labels a.dims) (conL a b)) = List.map (strideL a.labels a.dims) (conL a b) := List.take_of_length_le (by omega)
    have tb : List.take (conL a b).length (List.map (strideL b.labels b.dims) (conL a b)) = List.map (strideL b.labels b.dims) (conL a b) := List.take_of_length_le (by omega)
    have tO : List.take (conL a b).length (List.map (strideL (conK a b keep) (conD a b keep)) (conL a b)) = List.map (strideL (conK a b keep) (conD a b keep)) (conL a b) := List.take_of_length_le (by omega)
    have tx : List.take (conL a b).length (digits (joinD a b) i) = digits (joinD a b) i := List.take_of_length_le (by omega)
    obtain ⟨oa, oa'⟩ := h.ia.off i
    obtain ⟨ob, ob'⟩ := h.ib.off i
    obtain ⟨oo, oo'⟩ := h.io.off i
    have hna := h.ia.n1
    have hnb := h.ib.n1
    have ca := h.ia.cut h.la i
    have cb := h.ib.cut h.lb i
    have co := h.io.cut htl i
    have hnw : n * wd ≤ 4096 * 6 := Nat.mul_le_mul hn1.2 hwb.2
    have hxa := ha.x.len
    have hxb := hb.x.len
    have hnx : conTo ⟨kk, pp, nn⟩ wd a b keep (repE (zeroE kk pp wd) n) (i + 1) = putE (conTo ⟨kk, pp, nn⟩ wd a b keep (repE (zeroE kk pp wd) n) i) (inOff (conK a b keep) (conD a b keep) (conL a b) (joinD a b) i * wd) (addE ⟨kk, pp, nn⟩ (((conTo ⟨kk, pp, nn⟩ wd a b keep (repE (zeroE kk pp wd) n) i).drop (inOff (conK a b keep) (conD a b keep) (conL a b) (joinD a b) i * wd)).take wd) (conE ⟨kk, pp, nn⟩ wd a b i)) := rfl
    have hnX : conX ⟨kk, pp, nn⟩ wd a b (i + 1) = conE ⟨kk, pp, nn⟩ wd a b i := rfl
    obtain ⟨hnl, _⟩ := conTo_ok h h.zl h.zf (i + 1)
    rw [show (Rg.mk kk pp nn).k = kk from rfl, show (Rg.mk kk pp nn).p = pp from rfl] at hnl
    have hfin := conR_eq h
    have hel := h.el i
    have hef := h.ef i
    have hmE : mulE ⟨kk, pp, nn⟩ ((a.data.drop (inOff a.labels a.dims (conL a b) (joinD a b) i * wd)).take wd) ((b.data.drop (inOff b.labels b.dims (conL a b) (joinD a b) i * wd)).take wd) = conE ⟨kk, pp, nn⟩ wd a b i := rfl
    generalize conTo ⟨kk, pp, nn⟩ wd a b keep (repE (zeroE kk pp wd) n) i = X at *
    generalize conX ⟨kk, pp, nn⟩ wd a b i = Z at *
    generalize conE ⟨kk, pp, nn⟩ wd a b i = E at *
    have hpE : putE Z 0 E = E := putE_all (by omega)
    have htt : List.take (n * wd) X = X := List.take_of_length_le (by omega)
    have tE : List.take wd E = E := List.take_of_length_le (by omega)
    have tZ : List.take wd Z = Z := List.take_of_length_le (by omega)
    have la1 := cut_len ca
    have lb1 := cut_len cb
    have lo1 := cut_len co
    have had := addE_len (r := ⟨kk, pp, nn⟩) lo1 hel
    have hpl := putE_len (xs := X) (off := inOff (conK a b keep) (conD a b keep) (conL a b) (joinD a b) i * wd) (ys := addE ⟨kk, pp, nn⟩ ((X.drop (inOff (conK a b keep) (conD a b keep) (conL a b) (joinD a b) i * wd)).take wd) E) (by omega)
    simp only [go_sem, seval, reduceCtorEq]
    (refine gi_call (dotOf_d (a := List.map (strideL a.labels a.dims) (conL a b)) (b := digits (joinD a b) i) (by omega) (by omega) (fun q _ => h.ia.dotb i q)) ?_ ?_ ?_; (focus (simp only [go_sem, seval, reduceCtorEq, ta, tx, hsa, hdl, hjd]; done)); (first | rfl | (focus (simp only [go_sem]; done))))
    simp only [go_sem, seval, reduceCtorEq, oa]
    (refine gi_call (rawElem_d (t := a) (x := inOff a.labels a.dims (conL a b) (joinD a b) i) hw (by omega) ca (by omega) (by omega)) ?_ ?_ ?_; (focus (simp only [go_sem, seval, reduceCtorEq]; done)); (first | rfl | (focus (simp only [go_sem]; done))))
    simp only [go_sem, seval, reduceCtorEq]
    (refine gi_call (dotOf_d (a := List.map (strideL b.labels b.dims) (conL a b)) (b := digits (joinD a b) i) (by omega) (by omega) (fun q _ => h.ib.dotb i q)) ?_ ?_ ?_; (focus (simp only [go_sem, seval, reduceCtorEq, tb, tx, hsb, hdl, hjd]; done)); (first | rfl | (focus (simp only [go_sem]; done))))
    simp only [go_sem, seval, reduceCtorEq, ob]
    (refine gi_call (rawElem_d (t := b) (x := inOff b.labels b.dims (conL a b) (joinD a b) i) hw (by omega) cb (by omega) (by omega)) ?_ ?_ ?_; (focus (simp only [go_sem, seval, reduceCtorEq]; done)); (first | rfl | (focus (simp only [go_sem]; done))))
    simp only [go_sem, seval, reduceCtorEq]
    (refine ti_callw [17] false (mulInto_d h.ring hw (fits_cut h.fa _ _) (fits_cut h.fb _ _) la1 lb1 (xs := Z) (off := 0) (by omega) (by omega)) (of_decide_eq_true rfl) ?_ ?_ ?_ ?_ (of_decide_eq_true rfl) ?_; (focus (simp only [go_sem, seval, reduceCtorEq, hmE, hpE, hxl, hel, la1, lb1, List.take_take, Nat.min_self]; done)); (focus (simp only [go_sem, seval, reduceCtorEq]; done)); (focus (simp only [go_sem, seval, reduceCtorEq, hmE, hpE, hxl, hel, la1, lb1, List.take_take, Nat.min_self]; done)); (focus (simp only [go_sem, seval, reduceCtorEq]; done)))
    simp only [go_sem, seval, reduceCtorEq, hmE, hpE]
    (refine gi_call (dotOf_d (a := List.map (strideL (conK a b keep) (conD a b keep)) (conL a b)) (b := digits (joinD a b) i) (by omega) (by omega) (fun q _ => h.io.dotb i q)) ?_ ?_ ?_; (focus (simp only [go_sem, seval, reduceCtorEq, tO, tx, hso, hdl, hjd]; done)); (first | rfl | (focus (simp only [go_sem]; done))))
    simp only [go_sem, seval, reduceCtorEq, oo]
    (refine gi_callv [10, 11, 12] (rawElemV_d (kk := kk) (pp := pp) (nn := nn) (ca := conK a b keep) (cb := conD a b keep) (cc := X) (l := (conK a b keep).length) (d := (conD a b keep).length) (x := inOff (conK a b keep) (conD a b keep) (conL a b) (joinD a b) i) hw hwb (m := (repE (zeroE kk pp wd) n).length) (by omega) (by omega) (by omega)) (of_decide_eq_true rfl) ?_ ?_ ?_ ?_ ?_ ?_; (simp only [go_sem, seval, reduceCtorEq]); (first | rfl | simp only [go_sem, seval, reduceCtorEq]); (simp only [go_sem, seval, reduceCtorEq, vwOk]); (simp only [go_sem, seval, reduceCtorEq, idsL, idsA, List.contains_cons, Nat.reduceBEq, Bool.or_true, Bool.true_or]); (first | rfl | simp only [go_sem, seval, reduceCtorEq]))
    simp only [go_sem, seval, reduceCtorEq]
    (refine ti_callw [12] false (addInto_d h.ring hw (xs := X) (y := E) (off := inOff (conK a b keep) (conD a b keep) (conL a b) (joinD a b) i * wd) (fits_cut htf _ _) hef hel (by omega) (by omega)) (of_decide_eq_true rfl) ?_ ?_ ?_ ?_ (of_decide_eq_true rfl) ?_; (focus (simp only [go_sem, seval, reduceCtorEq, hpl, hel, tE]; done)); (focus (simp only [go_sem, seval, reduceCtorEq]; done)); (focus (simp only [go_sem, seval, reduceCtorEq, hpl, hel, tE]; done)); (focus (simp only [go_sem, seval, reduceCtorEq]; done)))
    simp only [go_sem, seval, reduceCtorEq]
    have htD : List.take (conL a b).length (joinD a b) = joinD a b := List.take_of_length_le (by omega)
    (refine ti_callw [16] false (nextIndex_d (ds := joinD a b) (n := i) hdb (by omega) (by omega)) (of_decide_eq_true rfl) ?_ ?_ ?_ ?_ (of_decide_eq_true rfl) ?_; (focus (simp only [go_sem, seval, reduceCtorEq, hjd, htD, hdl, hdl1]; done)); (focus (simp only [go_sem, seval, reduceCtorEq]; done)); (focus (simp only [go_sem, seval, reduceCtorEq, hjd, htD, hdl, hdl1]; done)); (focus (simp only [go_sem, seval, reduceCtorEq]; done)))
    by_cases hlast : i + 1 < N
    · have hde : decide (((i : Int) + 1) % prodI (joinD a b) ≠ 0) = true := by
        rw [hpN, Int.emod_eq_of_lt (by omega) (by omega)]
        exact decide_eq_true (by omega)
      simp (disch := omega) only [go_sem, seval, reduceCtorEq, hde]
      (refine NextS.drop [false, false, false, false, false, false, false, false, false, true, false, false, false, false, false, false, false, false, false, false, false, false, false, false, false, false, false, false, false, false, false, false, false, false, false, false, false, false, false, false, false, false, false, false, false, false, false, false, false, false, false, false, false, false, false, false, false, false, false, false, false, false, false, false, false, false, false, false, false, false, false, false, false, false, false, false, false, false, false, false, false, false, false, false, false, false, false, false, false, false, false, false, false, false, false, false, false, false, false, false, false, false, false, false, false, false, false, false, false, false, false, false, true, true, true, true, true, true, true, true, true, true, true, true, true, true, true, true, true, true, true, true, true, true, true, true, true, true, true, true, true] (i + 1) (by omega) (by omega) (Nat.le_of_ble_eq_true rfl) ?_ ?_ <;> first | (simp only [go_sem, seval, reduceCtorEq, dropF_ch, dropF_cons, dropF_nil, cut, cond_true, cond_false, Int.natCast_zero, Int.natCast_add, Int.natCast_one, hnx, hnX]; done) | rfl | (simp only [go_sem, seval, reduceCtorEq, dropF_ch, dropF_cons, dropF_nil, cut, cond_true, cond_false, Int.natCast_zero, Int.natCast_add, Int.natCast_one, hnx, hnX]; rfl) | skip)
    · have hN : N = i + 1 := by omega
      have hde : decide (((i : Int) + 1) % prodI (joinD a b) ≠ 0) = false := by
        have : (i : Int) + 1 = N := by omega
        rw [hpN, this, Int.emod_self]
        rfl
      rw [hN, hnx] at hfin
      rw [hnx] at hnl
      simp (disch := omega) only [go_sem, seval, reduceCtorEq, hde, conT_yes e h, hfin, e]
      refine FnEnd.wk Wk.nogA ?_
      (refine FnEnd.mk (Nat.le_of_ble_eq_true rfl) rfl (of_decide_eq_true rfl) ?_ ?_ <;> try simp only [go_sem, seval, reduceCtorEq])
      all_goals rw [hzl, hnl]
end Go.Proofs.Ytcgnehacihjnkaa
