/-
  Contracts: permuted tensors, by the reference. No condition.
-/
import Derived.Test.YtmgifmgdfldheaaConJ
import Derived.Test.YtmgifmgdfldheaaPl4
namespace Go.Proofs.Ytmgifmgdfldheaa
open Go.RowKit Go.Lift Plain
set_option linter.unusedSimpArgs false
set_option linter.unusedVariables false
set_option maxRecDepth 100000

theorem l06Permute_d {kk pp nn : Int} {t : Ten} {L : List Int} {wd n : Nat} (hw : width ⟨kk, pp, nn⟩ = wd) (h : PermOk t L wd n) (hs : TSz 1048576 t) (hL : Sz 1048576 L) :
    Does Try.prog 89 [ringA kk pp nn, tenA t, .d (ints L)] [] (ownT 0 (permR wd t L)) (stoF (permR wd t L)) := by
  have hl12 := h.len12
  have hll := h.len
  have hal := h.ax.len
  have hpl : (permD t L).length = L.length := by simp [permD]
  have hxl := hs.x.len
  (refine spec_of (by kernel_rfl) Try.func89 k_spec_l06Permute (fnOk (Nat.le_of_ble_eq_true rfl) ?_); unfold C_spec_l06Permute)
  (simp only [Nat.reduceSub, List.length_cons, List.length_nil, Nat.reduceAdd, ch_init1, ch_init2, ch_init3, ch_init4, ch_init5, ch_init6, ch_init7, ch_init8]; try simp only [ch_rep]); (simp only [go_sem, seval, reduceCtorEq, List.replicate])
  have hpt : ∀ k, k < L.length → (permD t L).take (k + 1) = (permD t L).take k ++ [dimAt t (L.getD k 0)] := fun k hk => by
    rw [take_ss (by omega), getD_of hk]; simp [permD]
  have hat : ∀ k, k < L.length → (L.map (place t.labels)).take (k + 1) = (L.map (place t.labels)).take k ++ [place t.labels (L.getD k 0)] := fun k hk => by
    rw [take_ss (by simpa using hk), getD_of hk]; simp
  refine wpN_lp (L.length) [false, false, false, false, false, false, false, false, false, false, true, true, false, false, false, false, false, true, true, false, false, false, true, true, true, true, true, true, true, true, true, true, true, true, true, true, true, true, true, true, true, true, false, false, false, false, false, false, false, false, false, false, false, false, false, false, false, false, false, false, false, false, false, false, false, false, false, false, false, false, false, false, false, false, false, false, false, false, false, false, false, false, false, false] (fun k => [(7, .own 3 0 k), (8, .own 4 0 k), (21, .d (.int k))]) (fun k => [(3, iv ((permD t L).take k)), (4, iv ((L.map (place t.labels)).take k))]) (fun _ => by (simp only [go_sem, seval, reduceCtorEq, dropF_ch, dropF_cons, dropF_nil, cut, cond_true, cond_false]); first | done | rfl) (fun _ => by (simp only [go_sem, seval, reduceCtorEq, cut]); first | done | rfl) (Nat.le_of_ble_eq_true rfl) (by first | (simp only [go_sem, seval, reduceCtorEq, dropF_ch, dropF_cons, dropF_nil, cut, cond_true, cond_false, Int.natCast_zero, Int.natCast_add, Int.natCast_one, List.take_zero, iv_nil]; done) | rfl | (simp only [go_sem, seval, reduceCtorEq, dropF_ch, dropF_cons, dropF_nil, cut, cond_true, cond_false, Int.natCast_zero, Int.natCast_add, Int.natCast_one, List.take_zero, iv_nil]; rfl)) (by first | (simp only [go_sem, seval, reduceCtorEq, dropF_ch, dropF_cons, dropF_nil, cut, cond_true, cond_false, Int.natCast_zero, Int.natCast_add, Int.natCast_one, List.take_zero, iv_nil]; done) | rfl | (simp only [go_sem, seval, reduceCtorEq, dropF_ch, dropF_cons, dropF_nil, cut, cond_true, cond_false, Int.natCast_zero, Int.natCast_add, Int.natCast_one, List.take_zero, iv_nil]; rfl)) fun k hk => ?_
  unfold L2_spec_l06Permute
  by_cases hlt : k < L.length
  · have c1 : (k : Int) < L.length := by omega
    have g : L[k]? = some (L.getD k 0) := by rw [getD_of hlt]; exact List.getElem?_eq_getElem hlt
    have hm := h.sub L[k] (List.getElem_mem hlt)
    rw [← getD_of hlt] at hm
    obtain ⟨i, hi1, hi2, hi3, hi4⟩ := dimAt_get hal hm
    have c2 : (i : Int) < t.dims.length := by omega
    have l1 : ((permD t L).take k).length = k := by simp; omega
    have l2 : ((L.map (place t.labels)).take k).length = k := by simp; omega
    simp (disch := omega) only [go_sem, seval, reduceCtorEq, c1, g]
    (refine ti_call (l05Find_d (xs := t.labels) (x := L.getD k 0) hs.l.up.len) ?_ ?_ ?_; (focus (simp only [go_sem, seval, reduceCtorEq]; done)); (first | rfl | (focus (simp only [go_sem]; done))))
    simp (disch := omega) only [go_sem, seval, reduceCtorEq, hi3, c2, hi4, c1, l1, l2]
    refine ⟨by omega, by omega, ?_⟩
    have hd1 := hpt k hlt
    have ha1 := hat k hlt
    rw [hi3] at ha1
    (refine Next.drop [false, false, false, false, false, false, false, false, false, false, true, true, false, false, false, false, false, true, true, false, false, false, true, true, true, true, true, true, true, true, true, true, true, true, true, true, true, true, true, true, true, true, false, false, false, false, false, false, false, false, false, false, false, false, false, false, false, false, false, false, false, false, false, false, false, false, false, false, false, false, false, false, false, false, false, false, false, false, false, false, false, false, false, false] (by omega) (Nat.le_of_ble_eq_true rfl) ?_ ?_ <;> first | (simp only [go_sem, seval, reduceCtorEq, dropF_ch, dropF_cons, dropF_nil, cut, cond_true, cond_false, Int.natCast_zero, Int.natCast_add, Int.natCast_one, hd1, ha1]; done) | rfl | (simp only [go_sem, seval, reduceCtorEq, dropF_ch, dropF_cons, dropF_nil, cut, cond_true, cond_false, Int.natCast_zero, Int.natCast_add, Int.natCast_one, hd1, ha1]; rfl) | skip)
  · have c1 : ¬ (k : Int) < L.length := by omega
    have f1 : (permD t L).take k = permD t L := List.take_of_length_le (by omega)
    have f2 : (L.map (place t.labels)).take k = L.map (place t.labels) := List.take_of_length_le (by simp; omega)
    have hkl : k = L.length := by omega
    subst hkl
    simp (disch := omega) only [go_sem, seval, reduceCtorEq, c1, f1, f2]
    (refine ti_call (l05Ints_d (xs := L) (by omega)) ?_ ?_ ?_; (focus (simp only [go_sem, seval, reduceCtorEq]; done)); (first | rfl | (focus (simp only [go_sem]; done))))
    simp (disch := omega) only [go_sem, seval, reduceCtorEq]
    refine ⟨by omega, ?_⟩
    (refine wpN_lwk (Wk.nilS 6 2 1 _ _ _ rfl rfl) ?_; simp only [go_sem, seval, reduceCtorEq])
    have hNN := h.pN
    have hN := h.pbd
    have hn1 := h.n1
    have hwb := h.w1
    have hNn : permN t L * wd ≤ n * wd := Nat.mul_le_mul_right wd (by omega)
    have hdl3 := h.dl
    have htp : List.take L.length (permD t L) = permD t L := List.take_of_length_le (by omega)
    generalize hX : (fun i : Nat => if i = 0 then List.replicate L.length 0 else t.labels.map (atL L (digits (permD t L) ((i - 1 : Nat) : Int)))) = X
    have hX0 : X 0 = List.replicate L.length 0 := by rw [← hX]; rfl
    have hXs : ∀ i, X (i + 1) = t.labels.map (atL L (digits (permD t L) i)) := fun i => by rw [← hX]; simp
    have hXl : ∀ i, (X i).length = t.labels.length := fun i => by rw [← hX]; simp only; split <;> simp [hll]
    refine wpN_lp (permN t L) [false, false, false, false, false, false, false, false, false, false, false, false, false, false, false, true, true, false, false, false, false, false, false, false, false, false, false, false, false, false, false, false, false, false, false, false, false, false, false, false, false, false, false, false, false, false, false, false, false, true, true, true, true, true, true, true, true, true, true, true, true, true, true, true, true, true, true, true, true, true, true, true, true, true, true, true, true, true, true, true, true, true, true, false] (fun i => [(14, .d (.int i))]) (fun i => [(6, [.own 5 0 L.length, .own 3 0 L.length, .own 8 0 (i * wd)]), (7, iv (X i)), (8, iv (gath t.data wd (permOff t L) i))]) (fun _ => by (simp only [go_sem, seval, reduceCtorEq, dropF_ch, dropF_cons, dropF_nil, cut, cond_true, cond_false]); first | done | rfl) (fun _ => by (simp only [go_sem, seval, reduceCtorEq, cut]); first | done | rfl) (Nat.le_of_ble_eq_true rfl) (by first | (simp only [go_sem, seval, reduceCtorEq, dropF_ch, dropF_cons, dropF_nil, cut, cond_true, cond_false, Int.natCast_zero, Int.natCast_add, Int.natCast_one, hX0, gath, Nat.zero_mul, iv_nil]; done) | rfl | (simp only [go_sem, seval, reduceCtorEq, dropF_ch, dropF_cons, dropF_nil, cut, cond_true, cond_false, Int.natCast_zero, Int.natCast_add, Int.natCast_one, hX0, gath, Nat.zero_mul, iv_nil]; rfl)) (by first | (simp only [go_sem, seval, reduceCtorEq, dropF_ch, dropF_cons, dropF_nil, cut, cond_true, cond_false, Int.natCast_zero, Int.natCast_add, Int.natCast_one, hX0, gath, Nat.zero_mul, iv_nil]; done) | rfl | (simp only [go_sem, seval, reduceCtorEq, dropF_ch, dropF_cons, dropF_nil, cut, cond_true, cond_false, Int.natCast_zero, Int.natCast_add, Int.natCast_one, hX0, gath, Nat.zero_mul, iv_nil]; rfl)) fun i hi => ?_
    unfold L1_spec_l06Permute
    simp only [go_sem, seval, reduceCtorEq]
    (refine ti_call (l05Product_d (ds := permD t L) (lim := 4096) (by omega) (fun d hd => by have := h.dbd d hd; omega) (by omega)) ?_ ?_ ?_; (focus (simp only [go_sem, seval, reduceCtorEq, hpl, htp]; done)); (first | rfl | (focus (simp only [go_sem]; done))))
    have hmn : min (prodI (permD t L)) 4097 = permN t L := by omega
    by_cases hlti : i < permN t L
    · have c2 : (i : Int) < permN t L := by omega
      have hst := mul_step (wd := wd) hlti
      simp (disch := omega) only [go_sem, seval, reduceCtorEq, hmn, c2]
      (refine ti_call (l05Index_d (ds := permD t L) (n := i) (fun d hd => by have := h.dbd d hd; omega) (by omega) (by omega)) ?_ ?_ ?_; (focus (simp only [go_sem, seval, reduceCtorEq, hpl, htp]; done)); (first | rfl | (focus (simp only [go_sem]; done))))
      simp (disch := omega) only [go_sem, seval, reduceCtorEq, hpl]
      generalize hxs : digits (permD t L) i = xs at *
      have hxl2 : xs.length = L.length := by rw [← hxs]; simp [digits_len, hpl]
      refine wpN_lp (L.length) [false, false, false, false, false, false, false, false, false, false, false, false, false, false, false, true, true, false, false, false, false, false, false, false, false, false, false, false, false, false, false, false, false, false, false, false, false, false, false, false, false, false, false, false, false, false, false, false, false, false, false, false, false, false, false, false, false, false, false, false, true, true, true, true, true, true, true, true, true, true, true, true, false, false, false, false, false, false, false, false, false, false, false, false] (fun j => [(59, .d (.int j))]) (fun j => [(7, iv (fillX t.labels L xs (X i) j))]) (fun _ => by (simp only [go_sem, seval, reduceCtorEq, dropF_ch, dropF_cons, dropF_nil, cut, cond_true, cond_false]); first | done | rfl) (fun _ => by (simp only [go_sem, seval, reduceCtorEq, cut]); first | done | rfl) (Nat.le_of_ble_eq_true rfl) (by first | (simp only [go_sem, seval, reduceCtorEq, dropF_ch, dropF_cons, dropF_nil, cut, cond_true, cond_false, Int.natCast_zero, Int.natCast_add, Int.natCast_one, fillX_zero (hXl i)]; done) | rfl | (simp only [go_sem, seval, reduceCtorEq, dropF_ch, dropF_cons, dropF_nil, cut, cond_true, cond_false, Int.natCast_zero, Int.natCast_add, Int.natCast_one, fillX_zero (hXl i)]; rfl)) (by first | (simp only [go_sem, seval, reduceCtorEq, dropF_ch, dropF_cons, dropF_nil, cut, cond_true, cond_false, Int.natCast_zero, Int.natCast_add, Int.natCast_one, fillX_zero (hXl i)]; done) | rfl | (simp only [go_sem, seval, reduceCtorEq, dropF_ch, dropF_cons, dropF_nil, cut, cond_true, cond_false, Int.natCast_zero, Int.natCast_add, Int.natCast_one, fillX_zero (hXl i)]; rfl)) fun j hj => ?_
      unfold L0_spec_l06Permute
      by_cases hltj : j < L.length
      · have c3 : (j : Int) < L.length := by omega
        have hm := h.sub L[j] (List.getElem_mem hltj)
        obtain ⟨p, hp, e1, e2, _⟩ := place_mem hm
        have gx : xs[j]? = some (xs.getD j 0) := by rw [getD_of (by omega)]; exact List.getElem?_eq_getElem (by omega)
        have gp : (L.map (place t.labels))[j]? = some (p : Int) := by simp [hltj, e1]
        have c4 : (p : Int) < L.length := by omega
        have hfl := fillX_len t.labels L xs (X i) j
        have hfs := fillX_step (xs := xs) (old := X i) (axOk_nodup h.ax) h.nodup hltj hm
        rw [e1, Int.toNat_natCast] at hfs
        have hput : (fillX t.labels L xs (X i) j).take p ++ [xs.getD j 0] ++ (fillX t.labels L xs (X i) j).drop (p + 1) = fillX t.labels L xs (X i) (j + 1) := by rw [put_set (by omega), hfs]
        have gL : L[j]? = some L[j] := List.getElem?_eq_getElem hltj
        simp (disch := omega) only [go_sem, seval, reduceCtorEq, c3, c4, gx, gp, gL, e1]
        refine ⟨by omega, ?_⟩
        (refine Next.drop [false, false, false, false, false, false, false, false, false, false, false, false, false, false, false, true, true, false, false, false, false, false, false, false, false, false, false, false, false, false, false, false, false, false, false, false, false, false, false, false, false, false, false, false, false, false, false, false, false, false, false, false, false, false, false, false, false, false, false, false, true, true, true, true, true, true, true, true, true, true, true, true, false, false, false, false, false, false, false, false, false, false, false, false] (by omega) (Nat.le_of_ble_eq_true rfl) ?_ ?_ <;> first | (simp only [go_sem, seval, reduceCtorEq, dropF_ch, dropF_cons, dropF_nil, cut, cond_true, cond_false, Int.natCast_zero, Int.natCast_add, Int.natCast_one, hput]; done) | rfl | (simp only [go_sem, seval, reduceCtorEq, dropF_ch, dropF_cons, dropF_nil, cut, cond_true, cond_false, Int.natCast_zero, Int.natCast_add, Int.natCast_one, hput]; rfl) | skip)
      · have c3 : ¬ (j : Int) < L.length := by omega
        have hff : fillX t.labels L xs (X i) j = t.labels.map (atL L xs) := fillX_full h.sup (by omega)
        have hid := h.idx i
        have ho := h.off i
        rw [hxs] at hid ho
        have hcut := h.cut i
        have hcl := cut_len hcut
        have htt : List.take wd (List.take wd (List.drop (permOff t L i * wd) t.data)) = List.take wd (List.drop (permOff t L i * wd) t.data) := List.take_of_length_le (by omega)
        have hgl : (gath t.data wd (permOff t L) i).length = i * wd := gath_len fun q _ => h.cut q
        have hml : (t.labels.map (atL L xs)).length = L.length := by simp [hll]
        have hmt : List.take t.labels.length (t.labels.map (atL L xs)) = t.labels.map (atL L xs) := List.take_of_length_le (by omega)
        have hxw : ∀ z ∈ t.labels.map (atL L xs), I64 z := fun z hz => by
          obtain ⟨q, hq, rfl⟩ := List.mem_iff_getElem.1 hz
          have h1 := hid.2 q (by simp at hq; omega)
          have h2 := h.ax.dim (t.dims.getD q 0) (by rw [getD_of (by simp at hq; omega)]; exact List.getElem_mem _)
          unfold idxAt at h1
          rw [getD_of hq] at h1
          exact ⟨by omega, by omega⟩
        have hpn := h.pn
        simp (disch := omega) only [go_sem, seval, reduceCtorEq, c3, hff]
        (refine gi_call (l05Offset_d (ds := t.dims) (is := t.labels.map (atL L xs)) hs.d.up ⟨by omega, hxw⟩ hid h.ax.dim (by omega)) ?_ ?_ ?_; (focus (simp only [go_sem, seval, reduceCtorEq, hml, hmt, hll]; done)); (first | rfl | (focus (simp only [go_sem]; done))))
        simp (disch := omega) only [go_sem, seval, reduceCtorEq, ho]
        (refine gi_call (l05Get_d (t := t) (x := permOff t L i) hw (by omega) hcut (by omega) (by omega)) ?_ ?_ ?_; (focus (simp only [go_sem, seval, reduceCtorEq]; done)); (first | rfl | (focus (simp only [go_sem]; done))))
        simp (disch := omega) only [go_sem, seval, reduceCtorEq, hcl, hgl, htt]
        refine ⟨by omega, ?_⟩
        (refine Next.drop [false, false, false, false, false, false, false, false, false, false, false, false, false, false, false, true, true, false, false, false, false, false, false, false, false, false, false, false, false, false, false, false, false, false, false, false, false, false, false, false, false, false, false, false, false, false, false, false, false, true, true, true, true, true, true, true, true, true, true, true, true, true, true, true, true, true, true, true, true, true, true, true, true, true, true, true, true, true, true, true, true, true, true, false] (by omega) (Nat.le_of_ble_eq_true rfl) ?_ ?_ <;> first | (simp only [go_sem, seval, reduceCtorEq, dropF_ch, dropF_cons, dropF_nil, cut, cond_true, cond_false, Int.natCast_zero, Int.natCast_add, Int.natCast_one, gath, Nat.add_mul, Nat.one_mul, hXs, hxs]; done) | rfl | (simp only [go_sem, seval, reduceCtorEq, dropF_ch, dropF_cons, dropF_nil, cut, cond_true, cond_false, Int.natCast_zero, Int.natCast_add, Int.natCast_one, gath, Nat.add_mul, Nat.one_mul, hXs, hxs]; rfl) | skip)
    · have hiN : i = permN t L := by omega
      have c2 : ¬ (permN t L : Int) < permN t L := by omega
      have hgl : (gath t.data wd (permOff t L) (permN t L)).length = permN t L * wd := gath_len fun q _ => h.cut q
      rw [hiN]
      simp (disch := omega) only [go_sem, seval, reduceCtorEq, hmn, c2]
      refine FnEnd.wk Wk.nogA ?_
      (refine FnEnd.mk (Nat.le_of_ble_eq_true rfl) rfl (of_decide_eq_true rfl) ?_ ?_ <;> try simp only [go_sem, seval, reduceCtorEq])
      all_goals simp only [permR, hgl, hpl]
end Go.Proofs.Ytmgifmgdfldheaa
