/-
  Contracts: the contraction of two tensors, by the program and by the reference. No condition.
-/
import Derived.Test.YtcgnehacihjnkaaConK
namespace Go.Proofs.Ytcgnehacihjnkaa
open Go.RowKit Go.Lift Plain
set_option linter.unusedSimpArgs false
set_option linter.unusedVariables false
set_option maxRecDepth 100000

theorem dv_nl : dv [] = [] := nr rfl
theorem l08Fits_d {kk pp nn : Int} {a b : Ten} {keep : List Int} (ha : TSz 1048576 a) (hb : TSz 1048576 b) (hk : Sz 1048576 keep) (h1 : tensorOk ⟨kk, pp, nn⟩ a.labels a.dims a.data = true) (h2 : tensorOk ⟨kk, pp, nn⟩ b.labels b.dims b.data = true) :
    Does Try.prog 123 [tenA a, tenA b, .d (ints keep)] [] (.d (.bool (conB ⟨kk, pp, nn⟩ a b keep))) [] := by
  obtain ⟨wa, na, a1, a2, a3, a4, a5, a6, a7, a8, a9, a10⟩ := ten_facts h1
  obtain ⟨wb, nb, b1, b2, b3, b4, b5, b6, b7, b8, b9, b10⟩ := ten_facts h2
  have hkl := hk.len
  have hll := joinL_len a.labels b.labels
  have l1 := a10.1
  have l2 := b10.1
  have hjd := joinD_len a b
  (refine spec_of (by kernel_rfl) Try.func123 k_spec_l08Fits (fnOk (Nat.le_of_ble_eq_true rfl) ?_); unfold C_spec_l08Fits)
  (simp only [Nat.reduceSub, List.length_cons, List.length_nil, Nat.reduceAdd, ch_init1, ch_init2, ch_init3, ch_init4, ch_init5, ch_init6, ch_init7, ch_init8]; try simp only [ch_rep]); (simp only [go_sem, seval, reduceCtorEq, List.replicate])
  cases hj : joinOk a b
  · (refine ti_call (l08Join_no a10 b10 hj) ?_ ?_ ?_; (focus (simp only [go_sem, seval, reduceCtorEq]; done)); (first | rfl | (focus (simp only [go_sem]; done))))
    have e : conB ⟨kk, pp, nn⟩ a b keep = false := by simp only [conB, hj, Bool.and_false, Bool.false_and]
    simp only [go_sem, seval, reduceCtorEq, e]
    (refine FnEnd.mk (Nat.le_of_ble_eq_true rfl) rfl (of_decide_eq_true rfl) ?_ ?_ <;> try simp only [go_sem, seval, reduceCtorEq])
  · (refine ti_call (l08Join_d a10 b10 hj) ?_ ?_ ?_; (focus (simp only [go_sem, seval, reduceCtorEq]; done)); (first | rfl | (focus (simp only [go_sem]; done))))
    have hpj := joinD_prod a10 b10 (by omega) (by omega)
    simp only [go_sem, seval, reduceCtorEq]
    (refine ti_call (l05Product_d (ds := joinD a b) (lim := 65536) (by omega) (fun d hd => by have := joinD_bd a10 b10 d hd; omega) (by omega)) ?_ ?_ ?_; (focus (simp only [go_sem, seval, reduceCtorEq]; done)); (first | rfl | (focus (simp only [go_sem]; done))))
    by_cases hp : prodI (joinD a b) ≤ 65536
    · have c : min (prodI (joinD a b)) 65537 ≤ 65536 := by omega
      simp only [go_sem, seval, reduceCtorEq, c]
      (refine ti_call (l08Keep_d (ls := joinL a.labels b.labels) (ds := joinD a b) (keep := keep) (joinL_nd (axOk_nodup a10) (axOk_nodup b10)) (by omega) hjd.symm hkl) ?_ ?_ ?_; (focus (simp only [go_sem, seval, reduceCtorEq]; done)); (first | rfl | (focus (simp only [go_sem]; done))))
      simp only [go_sem, seval, reduceCtorEq]
      have hsz := conKD_sz (keep := keep) a10 b10 ha hb sz_nil
      have hcl : (conD a b keep).length = (conK a b keep).length := List.length_map ..
      have htk : List.take (conK a b keep).length (conD a b keep) = conD a b keep := List.take_of_length_le (by omega)
      rw [show (joinL a.labels b.labels).filter (has keep) = conK a b keep from rfl, show (conK a b keep).map (dAt (joinL a.labels b.labels) (joinD a b)) = conD a b keep from rfl]
      (refine ti_call (sTensorSize_d (t := ⟨conK a b keep, conD a b keep, []⟩) hsz.up) ?_ ?_ ?_; (focus (simp only [go_sem, seval, reduceCtorEq, hcl, htk, dv_nl]; done)); (first | rfl | (focus (simp only [go_sem]; done))))
      have e : conB ⟨kk, pp, nn⟩ a b keep = decide (tsize (conK a b keep) (conD a b keep) ≥ 0) := by
        simp only [conB, hj, h1, h2, hp, Bool.true_and, decide_true]
        rcases tsize_cases (conK a b keep) (conD a b keep) with h | ⟨_, _, h, h'⟩ <;> exact decide_eq_decide.2 (by omega)
      simp only [go_sem, seval, reduceCtorEq, e]
      (refine FnEnd.mk (Nat.le_of_ble_eq_true rfl) rfl (of_decide_eq_true rfl) ?_ ?_ <;> try simp only [go_sem, seval, reduceCtorEq])
    · have c : ¬ min (prodI (joinD a b)) 65537 ≤ 65536 := by omega
      have e : conB ⟨kk, pp, nn⟩ a b keep = false := by
        rw [conB, decide_eq_false hp]; simp
      simp only [go_sem, seval, reduceCtorEq, c, e]
      (refine FnEnd.mk (Nat.le_of_ble_eq_true rfl) rfl (of_decide_eq_true rfl) ?_ ?_ <;> try simp only [go_sem, seval, reduceCtorEq])

theorem ConOk.axa {r : Rg} {a b : Ten} {keep : List Int} {wd na nb n N : Nat} (h : ConOk r a b keep wd na nb n N) : axOk a.labels a.dims := h.ia.ax
set_option maxHeartbeats 2000000 in
theorem l08Pair_d {kk pp nn : Int} {a b : Ten} {keep : List Int} {wd na nb n N : Nat} (h : ConOk ⟨kk, pp, nn⟩ a b keep wd na nb n N) (ha : TSz 1048576 a) (hb : TSz 1048576 b) (hk : Sz 1048576 keep) :
    Does Try.prog 124 [ringA kk pp nn, tenA a, tenA b, .d (ints keep)] [] (ownT 0 (conR ⟨kk, pp, nn⟩ wd a b keep)) (stoF (conR ⟨kk, pp, nn⟩ wd a b keep)) := by
  have hkl := hk.len
  have hll := joinL_len a.labels b.labels
  have l1 := h.ia.ax.1
  have l2 := h.ib.ax.1
  have l3 := h.io.ax.1
  have l4 := h.io.ax.len
  have hjd := joinD_len a b
  have hN1 := h.N1
  have hn1 := h.io.n1
  have hwb := h.wb
  have hnw : n * wd ≤ 4096 * 6 := Nat.mul_le_mul hn1.2 hwb.2
  have hpN := h.pN
  have hpn := h.io.pn
  have hna := h.ia.n1
  have hnb := h.ib.n1
  have hpa := h.ia.pn
  have hpb := h.ib.pn
  have hmN : min (prodI (joinD a b)) 65537 = (N : Int) := by omega
  have hxa := ha.x.len
  have hxb := hb.x.len
  have htk : List.take (conK a b keep).length (conD a b keep) = conD a b keep := List.take_of_length_le (by omega)
  (refine spec_of (by kernel_rfl) Try.func124 k_spec_l08Pair (fnOk (Nat.le_of_ble_eq_true rfl) ?_); unfold C_spec_l08Pair)
  (simp only [Nat.reduceSub, List.length_cons, List.length_nil, Nat.reduceAdd, ch_init1, ch_init2, ch_init3, ch_init4, ch_init5, ch_init6, ch_init7, ch_init8]; try simp only [ch_rep]); (simp only [go_sem, seval, reduceCtorEq, List.replicate])
  (refine ti_call (l08Join_d h.ia.ax h.ib.ax h.ja) ?_ ?_ ?_; (focus (simp only [go_sem, seval, reduceCtorEq]; done)); (first | rfl | (focus (simp only [go_sem]; done))))
  simp only [go_sem, seval, reduceCtorEq]
  (refine ti_call (l08Keep_d (ls := joinL a.labels b.labels) (ds := joinD a b) (keep := keep) h.ia.nodup (by omega) hjd.symm hkl) ?_ ?_ ?_; (focus (simp only [go_sem, seval, reduceCtorEq]; done)); (first | rfl | (focus (simp only [go_sem]; done))))
  simp only [go_sem, seval, reduceCtorEq]
  rw [show (joinL a.labels b.labels).filter (has keep) = conK a b keep from rfl, show (conK a b keep).map (dAt (joinL a.labels b.labels) (joinD a b)) = conD a b keep from rfl, show joinL a.labels b.labels = conL a b from rfl]
  rw [show joinL a.labels b.labels = conL a b from rfl] at hll hjd
  (refine ti_call (l05Zero_d (kk := kk) (pp := pp) (nn := nn) (ls := conK a b keep) (ds := conD a b keep) h.w hwb (by omega) (by omega) (fun d hd => by have := h.io.ax.dim d hd; omega) hpn hn1.2) ?_ ?_ ?_; (focus (simp only [go_sem, seval, reduceCtorEq, l4.symm, htk]; done)); (first | rfl | (focus (simp only [go_sem]; done))))
  simp only [go_sem, seval, reduceCtorEq]
  (refine ti_call (l08Steps_d (t := a) (L := conL a b) h.ia.ax (by omega) h.ia.nodup (by omega)) ?_ ?_ ?_; (focus (simp only [go_sem, seval, reduceCtorEq]; done)); (first | rfl | (focus (simp only [go_sem]; done))))
  simp only [go_sem, seval, reduceCtorEq]
  (refine ti_call (l08Steps_d (t := b) (L := conL a b) h.ib.ax (by omega) h.ia.nodup (by omega)) ?_ ?_ ?_; (focus (simp only [go_sem, seval, reduceCtorEq]; done)); (first | rfl | (focus (simp only [go_sem]; done))))
  simp only [go_sem, seval, reduceCtorEq]
  (refine ti_call (l08Steps_d (t := ⟨conK a b keep, conD a b keep, repE (zeroE kk pp wd) n⟩) (L := conL a b) h.io.ax (by show prodI (conD a b keep) ≤ 4096; omega) h.ia.nodup (by omega)) ?_ ?_ ?_; (focus (simp only [go_sem, seval, reduceCtorEq]; done)); (first | rfl | (focus (simp only [go_sem]; done))))
  simp (disch := omega) only [go_sem, seval, reduceCtorEq]
  refine ⟨by omega, ?_⟩
  (refine ti_call (l05Product_d (ds := joinD a b) (lim := 65536) (by omega) (fun d hd => by have := h.ia.dbd d hd; omega) (by omega)) ?_ ?_ ?_; (focus (simp only [go_sem, seval, reduceCtorEq, hmN]; done)); (first | rfl | (focus (simp only [go_sem]; done))))
  simp only [go_sem, seval, reduceCtorEq, hmN]
  have hd0 : List.replicate (conL a b).length 0 = digits (joinD a b) 0 := by rw [digits_zr, hjd]
  have hc0 : conTo ⟨kk, pp, nn⟩ wd a b keep (repE (zeroE kk pp wd) n) 0 = repE (zeroE kk pp wd) n := rfl
  have hdb : ∀ d ∈ joinD a b, 1 ≤ d ∧ d ≤ 1000 := fun d hd => by have := h.ia.dbd d hd; omega
  have hd1 : ∀ d ∈ joinD a b, 1 ≤ d := fun d hd => (hdb d hd).1
  simp only [hd0]
  refine wpN_lp (N) [false, false, false, false, false, false, false, false, false, false, false, false, false, false, false, false, false, false, true, true, true, true, true, true, false, false, false, false, false, false, false, false, false, false, false, false, false, false, false, false, false, false, false, false, false, false, false, false, false, false, false, false, false, false, false, true, true, true, true, true, true, true, true, true, true, true, true, true, true, true, true, true, true, true, true, true, true, true, true, true, true, true, true, true, true, true, true, true, true, true, true, true, true, true, true, true, true, true, true, true, true, true, true, true, true, true, true, true, true, true, true, true, true, true, true, true, true, true, true, true, true, true, true, true, true, true, true, true, true, true, true, true, true, true, true, true, false] (fun i => [(17, .d (.int ((N : Int) - i)))]) (fun i => [(11, iv (conTo ⟨kk, pp, nn⟩ wd a b keep (repE (zeroE kk pp wd) n) i)), (15, iv (digits (joinD a b) (i : Int)))]) (fun _ => by (simp only [go_sem, seval, reduceCtorEq, dropF_ch, dropF_cons, dropF_nil, cut, cond_true, cond_false]); first | done | rfl) (fun _ => by (simp only [go_sem, seval, reduceCtorEq, cut]); first | done | rfl) (Nat.le_of_ble_eq_true rfl) (by first | (simp only [go_sem, seval, reduceCtorEq, dropF_ch, dropF_cons, dropF_nil, cut, cond_true, cond_false, Int.natCast_zero, Int.natCast_add, Int.natCast_one, hc0, Int.sub_zero, hd0]; done) | rfl | (simp only [go_sem, seval, reduceCtorEq, dropF_ch, dropF_cons, dropF_nil, cut, cond_true, cond_false, Int.natCast_zero, Int.natCast_add, Int.natCast_one, hc0, Int.sub_zero, hd0]; rfl)) (by first | (simp only [go_sem, seval, reduceCtorEq, dropF_ch, dropF_cons, dropF_nil, cut, cond_true, cond_false, Int.natCast_zero, Int.natCast_add, Int.natCast_one, hc0, Int.sub_zero, hd0]; done) | rfl | (simp only [go_sem, seval, reduceCtorEq, dropF_ch, dropF_cons, dropF_nil, cut, cond_true, cond_false, Int.natCast_zero, Int.natCast_add, Int.natCast_one, hc0, Int.sub_zero, hd0]; rfl)) fun i hi => ?_
  unfold L2_spec_l08Pair
  obtain ⟨htl, htf⟩ := conTo_ok h h.zl h.zf i
  have hzl := h.zl
  rw [show (Rg.mk kk pp nn).k = kk from rfl, show (Rg.mk kk pp nn).p = pp from rfl] at htl htf hzl
  have hdl := digits_len (joinD a b) i
  by_cases hlt : i < N
  · have c1 : (N : Int) - i > 0 := by omega
    simp (disch := omega) only [go_sem, seval, reduceCtorEq, c1]
    have hsa : (List.map (strideL a.labels a.dims) (conL a b)).length = (conL a b).length := List.length_map ..
    have hsb : (List.map (strideL b.labels b.dims) (conL a b)).length = (conL a b).length := List.length_map ..
    have hso : (List.map (strideL (conK a b keep) (conD a b keep)) (conL a b)).length = (conL a b).length := List.length_map ..
    refine wpN_lp ((conL a b).length) [false, false, false, false, false, false, false, false, false, false, false, false, false, false, false, false, false, false, false, false, false, true, true, false, false, false, false, false, false, false, false, false, false, false, false, false, false, false, false, false, false, false, false, false, false, false, false, false, false, false, false, false, false, false, false, false, false, false, false, false, false, false, true, true, true, true, true, true, true, true, true, true, true, true, true, true, true, true, true, true, true, true, true, true, true, true, true, true, true, true, true, false, false, false, false, false, false, false, false, false, false, false, false, false, false, false, false, false, false, false, false, false, false, false, false, false, false, false, false, false, false, false, false, false, false, false, false, false, false, false, false, false, false, false, false, false, false] (fun q => [(18, .d (.int (dotI ((List.map (strideL a.labels a.dims) (conL a b)).take q) ((digits (joinD a b) i).take q)))), (19, .d (.int (dotI ((List.map (strideL b.labels b.dims) (conL a b)).take q) ((digits (joinD a b) i).take q)))), (20, .d (.int (dotI ((List.map (strideL (conK a b keep) (conD a b keep)) (conL a b)).take q) ((digits (joinD a b) i).take q)))), (61, .d (.int q))]) (fun q => []) (fun _ => by (simp only [go_sem, seval, reduceCtorEq, dropF_ch, dropF_cons, dropF_nil, cut, cond_true, cond_false]); first | done | rfl) (fun _ => by (simp only [go_sem, seval, reduceCtorEq, cut]); first | done | rfl) (Nat.le_of_ble_eq_true rfl) (by first | (simp only [go_sem, seval, reduceCtorEq, dropF_ch, dropF_cons, dropF_nil, cut, cond_true, cond_false, Int.natCast_zero, Int.natCast_add, Int.natCast_one, List.take_zero, dotI]; done) | rfl | (simp only [go_sem, seval, reduceCtorEq, dropF_ch, dropF_cons, dropF_nil, cut, cond_true, cond_false, Int.natCast_zero, Int.natCast_add, Int.natCast_one, List.take_zero, dotI]; rfl)) (by first | (simp only [go_sem, seval, reduceCtorEq, dropF_ch, dropF_cons, dropF_nil, cut, cond_true, cond_false, Int.natCast_zero, Int.natCast_add, Int.natCast_one, List.take_zero, dotI]; done) | rfl | (simp only [go_sem, seval, reduceCtorEq, dropF_ch, dropF_cons, dropF_nil, cut, cond_true, cond_false, Int.natCast_zero, Int.natCast_add, Int.natCast_one, List.take_zero, dotI]; rfl)) fun q hq => ?_
    unfold L1_spec_l08Pair
    have ba := dotI_bd (a := List.map (strideL a.labels a.dims) (conL a b)) (b := digits (joinD a b) i) (by omega) (fun k _ => h.ia.dotb i k) q (by omega)
    have bb := dotI_bd (a := List.map (strideL b.labels b.dims) (conL a b)) (b := digits (joinD a b) i) (by omega) (fun k _ => h.ib.dotb i k) q (by omega)
    have bo := dotI_bd (a := List.map (strideL (conK a b keep) (conD a b keep)) (conL a b)) (b := digits (joinD a b) i) (by omega) (fun k _ => h.io.dotb i k) q (by omega)
    by_cases hltq : q < (conL a b).length
    · have d1 : (q : Int) < (conL a b).length := by omega
      have gX : (digits (joinD a b) i)[q]? = some ((digits (joinD a b) i).getD q 0) := by rw [getD_of (by omega)]; exact List.getElem?_eq_getElem (by omega)
      have ga : (List.map (strideL a.labels a.dims) (conL a b))[q]? = some ((List.map (strideL a.labels a.dims) (conL a b)).getD q 0) := by rw [getD_of (by omega)]; exact List.getElem?_eq_getElem (by omega)
      have gb : (List.map (strideL b.labels b.dims) (conL a b))[q]? = some ((List.map (strideL b.labels b.dims) (conL a b)).getD q 0) := by rw [getD_of (by omega)]; exact List.getElem?_eq_getElem (by omega)
      have go : (List.map (strideL (conK a b keep) (conD a b keep)) (conL a b))[q]? = some ((List.map (strideL (conK a b keep) (conD a b keep)) (conL a b)).getD q 0) := by rw [getD_of (by omega)]; exact List.getElem?_eq_getElem (by omega)
      have sa := dotI_take (a := List.map (strideL a.labels a.dims) (conL a b)) (b := digits (joinD a b) i) (k := q) (by omega) (by omega)
      have sb := dotI_take (a := List.map (strideL b.labels b.dims) (conL a b)) (b := digits (joinD a b) i) (k := q) (by omega) (by omega)
      have so := dotI_take (a := List.map (strideL (conK a b keep) (conD a b keep)) (conL a b)) (b := digits (joinD a b) i) (k := q) (by omega) (by omega)
      have pa := h.ia.dotb i q
      have pb := h.ib.dotb i q
      have po := h.io.dotb i q
      rw [Int.mul_comm] at pa pb po sa sb so
      generalize List.map (strideL a.labels a.dims) (conL a b) = SA at *
      generalize List.map (strideL b.labels b.dims) (conL a b) = SB at *
      generalize List.map (strideL (conK a b keep) (conD a b keep)) (conL a b) = SO at *
      simp (disch := omega) only [go_sem, seval, reduceCtorEq, d1, List.getElem?_map, gX, ga, gb, go]
      (refine Next.drop [false, false, false, false, false, false, false, false, false, false, false, false, false, false, false, false, false, false, false, false, false, true, true, false, false, false, false, false, false, false, false, false, false, false, false, false, false, false, false, false, false, false, false, false, false, false, false, false, false, false, false, false, false, false, false, false, false, false, false, false, false, false, true, true, true, true, true, true, true, true, true, true, true, true, true, true, true, true, true, true, true, true, true, true, true, true, true, true, true, true, true, false, false, false, false, false, false, false, false, false, false, false, false, false, false, false, false, false, false, false, false, false, false, false, false, false, false, false, false, false, false, false, false, false, false, false, false, false, false, false, false, false, false, false, false, false, false] (by omega) (Nat.le_of_ble_eq_true rfl) ?_ ?_ <;> first | (simp only [go_sem, seval, reduceCtorEq, dropF_ch, dropF_cons, dropF_nil, cut, cond_true, cond_false, Int.natCast_zero, Int.natCast_add, Int.natCast_one, sa, sb, so]; done) | rfl | (simp only [go_sem, seval, reduceCtorEq, dropF_ch, dropF_cons, dropF_nil, cut, cond_true, cond_false, Int.natCast_zero, Int.natCast_add, Int.natCast_one, sa, sb, so]; rfl) | skip)
    · have d1 : ¬ (q : Int) < (conL a b).length := by omega
      obtain rfl : q = (conL a b).length := by omega
      have ta : List.take (conL a b).length (List.map (strideL a.labels a.dims) (conL a b)) = List.map (strideL a.labels a.dims) (conL a b) := List.take_of_length_le (by omega)
      have tb : List.take (conL a b).length (List.map (strideL b.labels b.dims) (conL a b)) = List.map (strideL b.labels b.dims) (conL a b) := List.take_of_length_le (by omega)
      have tO : List.take (conL a b).length (List.map (strideL (conK a b keep) (conD a b keep)) (conL a b)) = List.map (strideL (conK a b keep) (conD a b keep)) (conL a b) := List.take_of_length_le (by omega)
      have tx : List.take (conL a b).length (digits (joinD a b) i) = digits (joinD a b) i := List.take_of_length_le (by omega)
      obtain ⟨oa, oa'⟩ := h.ia.off i
      obtain ⟨ob, ob'⟩ := h.ib.off i
      obtain ⟨oo, oo'⟩ := h.io.off i
      have ca := h.ia.cut h.la i
      have cb := h.ib.cut h.lb i
      have co := h.io.cut htl i
      have hnx : conTo ⟨kk, pp, nn⟩ wd a b keep (repE (zeroE kk pp wd) n) (i + 1) = putE (conTo ⟨kk, pp, nn⟩ wd a b keep (repE (zeroE kk pp wd) n) i) (inOff (conK a b keep) (conD a b keep) (conL a b) (joinD a b) i * wd) (addE ⟨kk, pp, nn⟩ (((conTo ⟨kk, pp, nn⟩ wd a b keep (repE (zeroE kk pp wd) n) i).drop (inOff (conK a b keep) (conD a b keep) (conL a b) (joinD a b) i * wd)).take wd) (conE ⟨kk, pp, nn⟩ wd a b i)) := rfl
      generalize conTo ⟨kk, pp, nn⟩ wd a b keep (repE (zeroE kk pp wd) n) i = X at *
      have htt : List.take (n * wd) X = X := List.take_of_length_le (by omega)
      have la1 := cut_len ca
      have lb1 := cut_len cb
      have lo1 := cut_len co
      have hel := h.el i
      have hef := h.ef i
      rw [show conE ⟨kk, pp, nn⟩ wd a b i = mulE ⟨kk, pp, nn⟩ ((a.data.drop (inOff a.labels a.dims (conL a b) (joinD a b) i * wd)).take wd) ((b.data.drop (inOff b.labels b.dims (conL a b) (joinD a b) i * wd)).take wd) from rfl] at hel hef hnx
      have htm := List.take_of_length_le (Nat.le_of_eq hel)
      have had := addE_len (r := ⟨kk, pp, nn⟩) lo1 hel
      have hpl := putE_len (xs := X) (off := inOff (conK a b keep) (conD a b keep) (conL a b) (joinD a b) i * wd) (ys := addE ⟨kk, pp, nn⟩ ((X.drop (inOff (conK a b keep) (conD a b keep) (conL a b) (joinD a b) i * wd)).take wd) (mulE ⟨kk, pp, nn⟩ ((a.data.drop (inOff a.labels a.dims (conL a b) (joinD a b) i * wd)).take wd) ((b.data.drop (inOff b.labels b.dims (conL a b) (joinD a b) i * wd)).take wd))) (by omega)
      simp (disch := omega) only [go_sem, seval, reduceCtorEq, d1, ta, tb, tO, tx, oa, ob, oo]
      (refine gi_call (l05Get_d (t := ⟨conK a b keep, conD a b keep, X⟩) (x := inOff (conK a b keep) (conD a b keep) (conL a b) (joinD a b) i) h.w (by omega) co (by omega) (by show X.length ≤ _; omega)) ?_ ?_ ?_; (focus (simp only [go_sem, seval, reduceCtorEq, l4.symm, htk, htl, hzl, htt]; done)); (first | rfl | (focus (simp only [go_sem]; done))))
      simp only [go_sem, seval, reduceCtorEq]
      (refine gi_call (l05Get_d (t := a) (x := inOff a.labels a.dims (conL a b) (joinD a b) i) h.w (by omega) ca (by omega) (by omega)) ?_ ?_ ?_; (focus (simp only [go_sem, seval, reduceCtorEq]; done)); (first | rfl | (focus (simp only [go_sem]; done))))
      simp only [go_sem, seval, reduceCtorEq]
      (refine gi_call (l05Get_d (t := b) (x := inOff b.labels b.dims (conL a b) (joinD a b) i) h.w (by omega) cb (by omega) (by omega)) ?_ ?_ ?_; (focus (simp only [go_sem, seval, reduceCtorEq]; done)); (first | rfl | (focus (simp only [go_sem]; done))))
      simp only [go_sem, seval, reduceCtorEq]
      (refine gi_call (l02Mul_d h.ring h.w (fits_cut h.fa _ _) (fits_cut h.fb _ _) la1 lb1) ?_ ?_ ?_; (focus (simp only [go_sem, seval, reduceCtorEq, la1, lb1, List.take_take, Nat.min_self]; done)); (first | rfl | (focus (simp only [go_sem]; done))))
      simp only [go_sem, seval, reduceCtorEq]
      (refine gi_call (l02Add_d h.ring h.w (fits_cut htf _ _) hef lo1 hel) ?_ ?_ ?_; (focus (simp only [go_sem, seval, reduceCtorEq, lo1, hel, htm, List.take_take, Nat.min_self]; done)); (first | rfl | (focus (simp only [go_sem]; done))))
      simp only [go_sem, seval, reduceCtorEq]
      generalize addE ⟨kk, pp, nn⟩ ((X.drop (inOff (conK a b keep) (conD a b keep) (conL a b) (joinD a b) i * wd)).take wd) (mulE ⟨kk, pp, nn⟩ ((a.data.drop (inOff a.labels a.dims (conL a b) (joinD a b) i * wd)).take wd) ((b.data.drop (inOff b.labels b.dims (conL a b) (joinD a b) i * wd)).take wd)) = Y at *
      have hty : List.take wd Y = Y := List.take_of_length_le (by omega)
      (refine ti_callw [9, 10, 11] false (l05PutV_d (kk := kk) (pp := pp) (nn := nn) (ca := conK a b keep) (cb := conD a b keep) (cc := X) (l := (conK a b keep).length) (d := (conD a b keep).length) (m := n * wd) (x := inOff (conK a b keep) (conD a b keep) (conL a b) (joinD a b) i) (ys := Y) rfl rfl htl.symm h.w had hwb (by omega) (by omega) (by omega)) (of_decide_eq_true rfl) ?_ ?_ ?_ ?_ (of_decide_eq_true rfl) ?_; (focus (simp only [go_sem, seval, reduceCtorEq, hpl, htl, hzl, hty, had]; done)); (focus (simp only [go_sem, seval, reduceCtorEq]; done)); (focus (simp only [go_sem, seval, reduceCtorEq, hpl, htl, hzl, hty, had]; done)); (focus (simp only [go_sem, seval, reduceCtorEq]; done)))
      simp only [go_sem, seval, reduceCtorEq]
      simp (disch := omega) only [go_sem, seval, reduceCtorEq]
      have hz : (digits (joinD a b) i).take ((joinD a b).length - 0) ++ (digits (joinD a b) (i + 1)).drop ((joinD a b).length - 0) = digits (joinD a b) i := by
        rw [Nat.sub_zero, List.take_of_length_le (by omega), List.drop_eq_nil_of_le (by have := digits_len (joinD a b) (i + 1); omega), List.append_nil]
      have hnn : (N : Int) - i - 1 = (N : Int) - ((i : Int) + 1) := by omega
      refine wpN_lpI ((joinD a b).length) [false, false, false, false, false, false, false, false, false, false, false, false, false, false, false, false, false, false, false, false, false, false, false, false, false, false, false, false, false, false, false, false, false, false, false, false, false, false, false, false, false, false, false, false, false, false, false, false, false, false, false, false, false, false, false, false, false, false, false, false, false, false, false, false, false, false, false, false, false, false, false, false, false, false, false, false, false, false, false, false, false, false, false, false, false, false, false, false, false, false, false, false, false, false, false, false, false, false, false, false, false, false, false, false, false, false, false, false, false, false, false, false, false, false, true, true, true, true, true, true, true, true, true, true, true, true, true, true, true, true, true, true, true, true, true, true, false] (fun p => ((i : Int) + 1) % prodI ((joinD a b).drop ((joinD a b).length - p)) = 0) (fun p => [(23, .d (.int (((joinD a b).length : Int) - 1 - p)))]) (fun p => [(15, iv ((digits (joinD a b) i).take ((joinD a b).length - p) ++ (digits (joinD a b) (i + 1)).drop ((joinD a b).length - p)))]) (fun _ => by (simp only [go_sem, seval, reduceCtorEq, dropF_ch, dropF_cons, dropF_nil, cut, cond_true, cond_false]); first | done | rfl) (fun _ => by (simp only [go_sem, seval, reduceCtorEq, cut]); first | done | rfl) (by simp [prodI, Int.emod_one]) (Nat.le_of_ble_eq_true rfl) (by first | (simp only [go_sem, seval, reduceCtorEq, dropF_ch, dropF_cons, dropF_nil, cut, cond_true, cond_false, Int.natCast_zero, Int.natCast_add, Int.natCast_one, hjd.symm, hz, Int.sub_zero]; done) | rfl | (simp only [go_sem, seval, reduceCtorEq, dropF_ch, dropF_cons, dropF_nil, cut, cond_true, cond_false, Int.natCast_zero, Int.natCast_add, Int.natCast_one, hjd.symm, hz, Int.sub_zero]; rfl)) (by first | (simp only [go_sem, seval, reduceCtorEq, dropF_ch, dropF_cons, dropF_nil, cut, cond_true, cond_false, Int.natCast_zero, Int.natCast_add, Int.natCast_one, hjd.symm, hz, Int.sub_zero]; done) | rfl | (simp only [go_sem, seval, reduceCtorEq, dropF_ch, dropF_cons, dropF_nil, cut, cond_true, cond_false, Int.natCast_zero, Int.natCast_add, Int.natCast_one, hjd.symm, hz, Int.sub_zero]; rfl)) fun p hp hip => ?_
      unfold L0_spec_l08Pair
      by_cases hltp : p < (joinD a b).length
      · obtain ⟨j, hjk⟩ : ∃ j, (joinD a b).length = p + 1 + j := ⟨(joinD a b).length - p - 1, by omega⟩
        have e7 : ((joinD a b).length : Int) - 1 - p = j := by omega
        have e8 : (joinD a b).length - p = j + 1 := by omega
        have c1 : (j : Int) ≥ 0 := by omega
        have hid : j < (joinD a b).length := by omega
        have c3 : (j : Int) < (joinD a b).length := by omega
        rw [e8] at hip ⊢
        have hst := digits_step hd1 hid hip
        have hkeep := digits_keep (joinD a b) i j hd1
        have gd : (joinD a b)[j]? = some ((joinD a b).getD j 0) := by rw [getD_of hid]; exact List.getElem?_eq_getElem hid
        have hdj := hdb (joinD a b)[j] (List.getElem_mem hid)
        rw [← getD_of hid] at hdj
        have hbd := digits_bd (joinD a b) i hd1 j hid
        have hdl1 := digits_len (joinD a b) (i + 1)
        have hCl : ((digits (joinD a b) i).take (j + 1) ++ (digits (joinD a b) (i + 1)).drop (j + 1)).length = (joinD a b).length := by simp; omega
        have hCi : ((digits (joinD a b) i).take (j + 1) ++ (digits (joinD a b) (i + 1)).drop (j + 1))[j]? = some ((digits (joinD a b) i).getD j 0) := by
          rw [List.getElem?_append_left (by simp; omega), List.getElem?_take, if_pos (by omega), getD_of (by omega)]; exact List.getElem?_eq_getElem (by omega)
        have hCs : ∀ v, ((digits (joinD a b) i).take (j + 1) ++ (digits (joinD a b) (i + 1)).drop (j + 1)).set j v = (digits (joinD a b) i).take j ++ v :: (digits (joinD a b) (i + 1)).drop (j + 1) := fun v => by
          rw [← put_set (by omega)]
          have h1 : ((digits (joinD a b) i).take (j + 1) ++ (digits (joinD a b) (i + 1)).drop (j + 1)).take j = (digits (joinD a b) i).take j := by
            rw [List.take_append_of_le_length (by simp; omega), List.take_take, Nat.min_eq_left (by omega)]
          have h2 : ((digits (joinD a b) i).take (j + 1) ++ (digits (joinD a b) (i + 1)).drop (j + 1)).drop (j + 1) = (digits (joinD a b) (i + 1)).drop (j + 1) := by
            rw [List.drop_append_of_le_length (by simp; omega), List.drop_eq_nil_of_le (by simp; omega), List.nil_append]
          rw [h1, h2, List.append_assoc]; rfl
        generalize (digits (joinD a b) i).take (j + 1) ++ (digits (joinD a b) (i + 1)).drop (j + 1) = C at *
        have hput : ∀ v : Int, C.take j ++ [v] ++ C.drop (j + 1) = C.set j v := fun v => put_set (by omega)
        have hput2 : ∀ v w : Int, (C.set j v).take j ++ [w] ++ (C.set j v).drop (j + 1) = C.set j w := fun v w => by rw [put_set (by simp; omega), List.set_set]
        have hget : ∀ v : Int, (C.set j v)[j]? = some v := fun v => by rw [List.getElem?_set, if_pos rfl, if_pos (by omega)]
        have hcl : j + 1 ≤ C.length := by omega
        have hsp : (digits (joinD a b) (i + 1)).drop j = (digits (joinD a b) (i + 1)).getD j 0 :: (digits (joinD a b) (i + 1)).drop (j + 1) := by rw [getD_of (by omega)]; exact List.drop_eq_getElem_cons (by omega)
        have hgCi : ∀ u v : Int, (C.set j v).length = (joinD a b).length := fun u v => by rw [List.length_set]; omega
        simp (disch := omega) only [go_sem, seval, reduceCtorEq, e7, c1, c3, gd, hCi, hput, hget, hput2, hcl, List.length_set, hjd.symm]
        by_cases h3 : (digits (joinD a b) i).getD j 0 + 1 < (joinD a b).getD j 0
        · obtain ⟨h4, h5⟩ := hst.1 h3
          have hfin : C.set j ((digits (joinD a b) i).getD j 0 + 1) = digits (joinD a b) (i + 1) := by
            rw [hCs, ← hkeep h4 (by omega), ← h5, ← hsp, List.take_append_drop]
          simp (disch := omega) only [go_sem, seval, reduceCtorEq, h3, hfin]
          (refine Next.drop [false, false, false, false, false, false, false, false, false, false, false, false, false, false, false, false, false, false, true, true, true, true, true, true, false, false, false, false, false, false, false, false, false, false, false, false, false, false, false, false, false, false, false, false, false, false, false, false, false, false, false, false, false, false, false, true, true, true, true, true, true, true, true, true, true, true, true, true, true, true, true, true, true, true, true, true, true, true, true, true, true, true, true, true, true, true, true, true, true, true, true, true, true, true, true, true, true, true, true, true, true, true, true, true, true, true, true, true, true, true, true, true, true, true, true, true, true, true, true, true, true, true, true, true, true, true, true, true, true, true, true, true, true, true, true, true, false] (by omega) (Nat.le_of_ble_eq_true rfl) ?_ ?_ <;> first | (simp only [go_sem, seval, reduceCtorEq, dropF_ch, dropF_cons, dropF_nil, cut, cond_true, cond_false, Int.natCast_zero, Int.natCast_add, Int.natCast_one, hnx, hnn, hjd.symm]; done) | rfl | (simp only [go_sem, seval, reduceCtorEq, dropF_ch, dropF_cons, dropF_nil, cut, cond_true, cond_false, Int.natCast_zero, Int.natCast_add, Int.natCast_one, hnx, hnn, hjd.symm]; rfl) | skip)
        · obtain ⟨h4, h5⟩ := hst.2 h3
          have e9 : (joinD a b).length - (p + 1) = j := by omega
          have e10 : ((joinD a b).length : Int) - 1 - (↑p + 1) = j - 1 := by omega
          rw [h5] at hsp
          simp (disch := omega) only [go_sem, seval, reduceCtorEq, h3]
          have hI : ((i : Int) + 1) % prodI ((joinD a b).drop ((joinD a b).length - (p + 1))) = 0 := by rw [e9]; exact h4
          refine ⟨c3, by simp; omega, ?_⟩
          have hf0 : ∀ v : Int, (C.set j v).take j ++ [0] ++ (C.set j v).drop (j + 1) = (digits (joinD a b) i).take j ++ (digits (joinD a b) (i + 1)).drop j := fun v => by rw [hput2, hCs, ← hsp]
          (refine NextI.drop [false, false, false, false, false, false, false, false, false, false, false, false, false, false, false, false, false, false, false, false, false, false, false, false, false, false, false, false, false, false, false, false, false, false, false, false, false, false, false, false, false, false, false, false, false, false, false, false, false, false, false, false, false, false, false, false, false, false, false, false, false, false, false, false, false, false, false, false, false, false, false, false, false, false, false, false, false, false, false, false, false, false, false, false, false, false, false, false, false, false, false, false, false, false, false, false, false, false, false, false, false, false, false, false, false, false, false, false, false, false, false, false, false, false, true, true, true, true, true, true, true, true, true, true, true, true, true, true, true, true, true, true, true, true, true, true, false] (by omega) (hI) (Nat.le_of_ble_eq_true rfl) ?_ ?_ <;> first | (simp only [go_sem, seval, reduceCtorEq, dropF_ch, dropF_cons, dropF_nil, cut, cond_true, cond_false, Int.natCast_zero, Int.natCast_add, Int.natCast_one, e9, e10, hf0, hjd.symm]; done) | rfl | (simp only [go_sem, seval, reduceCtorEq, dropF_ch, dropF_cons, dropF_nil, cut, cond_true, cond_false, Int.natCast_zero, Int.natCast_add, Int.natCast_one, e9, e10, hf0, hjd.symm]; rfl) | skip)
      · have hk' : (joinD a b).length - p = 0 := by omega
        have c1 : ¬ ((joinD a b).length : Int) - 1 - p ≥ 0 := by omega
        rw [hk'] at hip ⊢
        simp (disch := omega) only [go_sem, seval, reduceCtorEq, c1, List.take_zero, List.drop_zero, List.nil_append]
        (refine Next.drop [false, false, false, false, false, false, false, false, false, false, false, false, false, false, false, false, false, false, true, true, true, true, true, true, false, false, false, false, false, false, false, false, false, false, false, false, false, false, false, false, false, false, false, false, false, false, false, false, false, false, false, false, false, false, false, true, true, true, true, true, true, true, true, true, true, true, true, true, true, true, true, true, true, true, true, true, true, true, true, true, true, true, true, true, true, true, true, true, true, true, true, true, true, true, true, true, true, true, true, true, true, true, true, true, true, true, true, true, true, true, true, true, true, true, true, true, true, true, true, true, true, true, true, true, true, true, true, true, true, true, true, true, true, true, true, true, false] (by omega) (Nat.le_of_ble_eq_true rfl) ?_ ?_ <;> first | (simp only [go_sem, seval, reduceCtorEq, dropF_ch, dropF_cons, dropF_nil, cut, cond_true, cond_false, Int.natCast_zero, Int.natCast_add, Int.natCast_one, hnx, hnn, hjd.symm]; done) | rfl | (simp only [go_sem, seval, reduceCtorEq, dropF_ch, dropF_cons, dropF_nil, cut, cond_true, cond_false, Int.natCast_zero, Int.natCast_add, Int.natCast_one, hnx, hnn, hjd.symm]; rfl) | skip)
  · obtain rfl : i = N := by omega
    have c1 : ¬ (i : Int) - i > 0 := by omega
    simp (disch := omega) only [go_sem, seval, reduceCtorEq, c1, conR_eq h]
    refine FnEnd.wk Wk.nogA ?_
    (refine FnEnd.mk (Nat.le_of_ble_eq_true rfl) rfl (of_decide_eq_true rfl) ?_ ?_ <;> try simp only [go_sem, seval, reduceCtorEq])
    all_goals rw [hzl, htl]
end Go.Proofs.Ytcgnehacihjnkaa
