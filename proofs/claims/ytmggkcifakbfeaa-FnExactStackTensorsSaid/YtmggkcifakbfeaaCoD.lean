/-
  Contracts: strides, sums of products, the next index, the index at an offset. No condition.
-/
import Derived.Test.YtmggkcifakbfeaaCoC
import Derived.Test.YtmggkcifakbfeaaPlA
import Derived.Test.YtmggkcifakbfeaaCoS
namespace Go.Proofs.Ytmggkcifakbfeaa
open Go.RowKit Go.Lift Plain
set_option linter.unusedSimpArgs false
set_option linter.unusedVariables false
set_option maxRecDepth 100000

theorem zeros_one (z : List AV) : Go.Lift.zeros 1 z = z := by simp [Go.Lift.zeros]
theorem zeros_zero (z : List AV) : Go.Lift.zeros 0 z = [] := by simp [Go.Lift.zeros]
theorem zeros_two (z : List AV) : Go.Lift.zeros 2 z = z ++ z := by simp [Go.Lift.zeros, List.replicate]
attribute [go_sem high] zeros_zero zeros_one zeros_two
theorem dotI_take {a b : List Int} {k : Nat} (ha : k < a.length) (hb : k < b.length) : dotI (a.take (k + 1)) (b.take (k + 1)) = dotI (a.take k) (b.take k) + a.getD k 0 * b.getD k 0 := by
  rw [take_ss ha, take_ss hb, dotI_snoc _ _ _ _ (by simp; omega), getD_of ha, getD_of hb]
theorem dotI_bd {a b : List Int} (hl : a.length ≤ b.length) (h : ∀ k, k < a.length → 0 ≤ a.getD k 0 * b.getD k 0 ∧ a.getD k 0 * b.getD k 0 ≤ 16777216) :
    ∀ k, k ≤ a.length → 0 ≤ dotI (a.take k) (b.take k) ∧ dotI (a.take k) (b.take k) ≤ 16777216 * k
  | 0, _ => by simp [dotI]
  | k + 1, hk => by
    have := dotI_bd hl h k (by omega)
    have := h k (by omega)
    rw [dotI_take (by omega) (by omega)]
    push_cast
    omega
theorem dotOf_d {a b : List Int} (hl : a.length = b.length) (hn : a.length ≤ 1048576) (h : ∀ k, k < a.length → 0 ≤ a.getD k 0 * b.getD k 0 ∧ a.getD k 0 * b.getD k 0 ≤ 16777216) :
    Does Try.prog 56 [.d (ints a), .d (ints b)] [] (.d (.int (dotI a b))) [] := by
  have hbd := dotI_bd (Nat.le_of_eq hl) h
  (refine spec_of (by kernel_rfl) Try.func56 k_impl_dotOf (fnOk (Nat.le_of_ble_eq_true rfl) ?_); unfold C_impl_dotOf)
  (simp only [Nat.reduceSub, List.length_cons, List.length_nil, Nat.reduceAdd, ch_init1, ch_init2, ch_init3, ch_init4, ch_init5, ch_init6, ch_init7, ch_init8]; try simp only [ch_rep]); (simp only [go_sem, seval, reduceCtorEq, List.replicate])
  refine wpN_lp (a.length) [false, false, false, false, false, false, true, false, false, false, true, true, true, true, true, true, true, true, true, true, true, true, true, true, false] (fun k => [(5, .d (.int (dotI (a.take k) (b.take k)))), (9, .d (.int k))]) (fun k => []) (fun _ => by (simp only [go_sem, seval, reduceCtorEq, dropF_ch, dropF_cons, dropF_nil, cut, cond_true, cond_false]); first | done | rfl) (fun _ => by (simp only [go_sem, seval, reduceCtorEq, cut]); first | done | rfl) (Nat.le_of_ble_eq_true rfl) (by first | (simp only [go_sem, seval, reduceCtorEq, dropF_ch, dropF_cons, dropF_nil, cut, cond_true, cond_false, Int.natCast_zero, Int.natCast_add, Int.natCast_one, List.take_zero, dotI]; done) | rfl | (simp only [go_sem, seval, reduceCtorEq, dropF_ch, dropF_cons, dropF_nil, cut, cond_true, cond_false, Int.natCast_zero, Int.natCast_add, Int.natCast_one, List.take_zero, dotI]; rfl)) (by first | (simp only [go_sem, seval, reduceCtorEq, dropF_ch, dropF_cons, dropF_nil, cut, cond_true, cond_false, Int.natCast_zero, Int.natCast_add, Int.natCast_one, List.take_zero, dotI]; done) | rfl | (simp only [go_sem, seval, reduceCtorEq, dropF_ch, dropF_cons, dropF_nil, cut, cond_true, cond_false, Int.natCast_zero, Int.natCast_add, Int.natCast_one, List.take_zero, dotI]; rfl)) fun k hk => ?_
  unfold L0_impl_dotOf
  have hb0 := hbd k hk
  by_cases hlt : k < a.length
  · have h1 : (k : Int) < a.length := by omega
    have h2 : (k : Int) < b.length := by omega
    have ha : a[k]? = some (a.getD k 0) := by rw [getD_of hlt]; exact List.getElem?_eq_getElem hlt
    have hb : b[k]? = some (b.getD k 0) := by rw [getD_of (by omega)]; exact List.getElem?_eq_getElem (by omega)
    have hk1 := h k hlt
    have hs := dotI_take hlt (show k < b.length by omega)
    simp (disch := omega) only [go_sem, seval, reduceCtorEq, h1, h2, ha, hb]
    (refine Next.drop [false, false, false, false, false, false, true, false, false, false, true, true, true, true, true, true, true, true, true, true, true, true, true, true, false] (by omega) (Nat.le_of_ble_eq_true rfl) ?_ ?_ <;> first | (simp only [go_sem, seval, reduceCtorEq, dropF_ch, dropF_cons, dropF_nil, cut, cond_true, cond_false, Int.natCast_zero, Int.natCast_add, Int.natCast_one, hs]; done) | rfl | (simp only [go_sem, seval, reduceCtorEq, dropF_ch, dropF_cons, dropF_nil, cut, cond_true, cond_false, Int.natCast_zero, Int.natCast_add, Int.natCast_one, hs]; rfl) | skip)
  · have h1 : ¬ (k : Int) < a.length := by omega
    have e1 : a.take k = a := List.take_of_length_le (by omega)
    have e2 : b.take k = b := List.take_of_length_le (by omega)
    simp (disch := omega) only [go_sem, seval, reduceCtorEq, h1, e1, e2]
    (refine FnEnd.mk (Nat.le_of_ble_eq_true rfl) rfl (of_decide_eq_true rfl) ?_ ?_ <;> try simp only [go_sem, seval, reduceCtorEq])

theorem stridesOf_d {t : Ten} {L : List Int} (ha : axOk t.labels t.dims) (hp : prodI t.dims ≤ 4096) (hL : L.length ≤ 1048576) :
    Does Try.prog 55 [tenA t, .d (ints L)] [] (.own 0 0 L.length) [some ⟨1, true, iv (L.map (strideL t.labels t.dims))⟩] := by
  have l1 := ha.1
  have l2 := ha.len
  have hdm := ha.dim
  generalize hls : t.labels = ls at *
  generalize hds : t.dims = ds at *
  have hstep : ∀ i, 1 ≤ prodI (ds.drop i) ∧ prodI (ds.drop i) ≤ 4096 := fun i => by
    have h1 := prodI_pos (ds.drop i) (fun d hd => (hdm d (List.mem_of_mem_drop hd)).1)
    have h2 := prodI_pos (ds.take i) (fun d hd => (hdm d (List.mem_of_mem_take hd)).1)
    have h3 := prodI_append (ds.take i) (ds.drop i)
    rw [List.take_append_drop] at h3
    have h4 : prodI (ds.drop i) ≤ prodI (ds.take i) * prodI (ds.drop i) := by
      have := Int.mul_le_mul_of_nonneg_right h2 (show 0 ≤ prodI (ds.drop i) by omega)
      omega
    omega
  (refine spec_of (by kernel_rfl) Try.func55 k_impl_stridesOf (fnOk (Nat.le_of_ble_eq_true rfl) ?_); unfold C_impl_stridesOf)
  (simp only [Nat.reduceSub, List.length_cons, List.length_nil, Nat.reduceAdd, ch_init1, ch_init2, ch_init3, ch_init4, ch_init5, ch_init6, ch_init7, ch_init8]; try simp only [ch_rep]); (simp only [go_sem, seval, reduceCtorEq, List.replicate])
  simp only [hls, hds]
  refine ⟨by omega, ?_⟩
  simp (disch := omega) only [go_sem, seval, reduceCtorEq, hls, hds]
  have h00 : L.map (strideL (ls.drop (ds.length - 0)) (ds.drop (ds.length - 0))) = List.replicate L.length 0 := by
    have : ls.drop (ds.length - 0) = [] := List.drop_eq_nil_of_le (by omega)
    rw [this]
    refine List.ext_getElem (by simp) fun i h1 h2 => ?_
    simp [strideL]
  have h01 : prodI (ds.drop (ds.length - 0)) = 1 := by
    have : ds.drop (ds.length - 0) = [] := List.drop_eq_nil_of_le (by omega)
    rw [this]; rfl
  refine wpN_lp (ds.length) [false, false, false, false, false, false, false, false, true, true, false, false, false, false, false, false, false, true, true, true, true, true, true, true, true, true, true, true, true, true, true, true, true, true, true, true, true, true, true, true, true, true, true, true, true, true, true, false] (fun k => [(6, .d (.int (prodI (ds.drop (ds.length - k))))), (7, .d (.int (ds.length - 1 - k)))]) (fun k => [(1, iv (L.map (strideL (ls.drop (ds.length - k)) (ds.drop (ds.length - k)))))]) (fun _ => by (simp only [go_sem, seval, reduceCtorEq, dropF_ch, dropF_cons, dropF_nil, cut, cond_true, cond_false]); first | done | rfl) (fun _ => by (simp only [go_sem, seval, reduceCtorEq, cut]); first | done | rfl) (Nat.le_of_ble_eq_true rfl) (by first | (simp only [go_sem, seval, reduceCtorEq, dropF_ch, dropF_cons, dropF_nil, cut, cond_true, cond_false, Int.natCast_zero, Int.natCast_add, Int.natCast_one, h00, h01, Int.sub_zero]; done) | rfl | (simp only [go_sem, seval, reduceCtorEq, dropF_ch, dropF_cons, dropF_nil, cut, cond_true, cond_false, Int.natCast_zero, Int.natCast_add, Int.natCast_one, h00, h01, Int.sub_zero]; rfl)) (by first | (simp only [go_sem, seval, reduceCtorEq, dropF_ch, dropF_cons, dropF_nil, cut, cond_true, cond_false, Int.natCast_zero, Int.natCast_add, Int.natCast_one, h00, h01, Int.sub_zero]; done) | rfl | (simp only [go_sem, seval, reduceCtorEq, dropF_ch, dropF_cons, dropF_nil, cut, cond_true, cond_false, Int.natCast_zero, Int.natCast_add, Int.natCast_one, h00, h01, Int.sub_zero]; rfl)) fun k hk => ?_
  unfold L1_impl_stridesOf
  by_cases hlt : k < ds.length
  · obtain ⟨i, hi⟩ : ∃ i, ds.length = k + 1 + i := ⟨ds.length - k - 1, by omega⟩
    have e7 : (ds.length : Int) - 1 - k = i := by omega
    have e8 : ds.length - k = i + 1 := by omega
    have c1 : (0 : Int) ≤ i := by omega
    have c1' : (i : Int) ≥ 0 := by omega
    rw [e8]
    simp only [go_sem, seval, reduceCtorEq, e7, c1']
    have hil : i < ls.length := by omega
    have hid : i < ds.length := by omega
    have c2 : (i : Int) < ls.length := by omega
    have c3 : (i : Int) < ds.length := by omega
    have gl : ls[i]? = some ls[i] := List.getElem?_eq_getElem hil
    have gd : ds[i]? = some ds[i] := List.getElem?_eq_getElem hid
    have el : ls.drop i = ls[i] :: ls.drop (i + 1) := List.drop_eq_getElem_cons hil
    have ed : ds.drop i = ds[i] :: ds.drop (i + 1) := List.drop_eq_getElem_cons hid
    have hst : ∀ x, strideL (ls.drop i) (ds.drop i) x = if x = ls[i] then prodI (ds.drop (i + 1)) else strideL (ls.drop (i + 1)) (ds.drop (i + 1)) x := fun x => by rw [el, ed, strideL]
    have hpr : prodI (ds.drop (i + 1)) * ds[i] = prodI (ds.drop i) := by rw [ed, prodI_cons, Int.mul_comm]
    have hsi := hstep i
    have hml : (L.map (strideL (ls.drop i) (ds.drop i))).length = (L.map (strideL (ls.drop (i + 1)) (ds.drop (i + 1)))).length := by simp
    refine wpN_lp (L.length) [false, false, false, false, false, false, false, false, true, true, false, false, false, false, false, false, false, false, false, false, false, false, false, false, true, true, true, true, true, true, true, true, true, true, true, true, true, true, true, true, false, false, false, false, false, false, false, false] (fun j => [(23, .d (.int j))]) (fun j => [(1, iv (mix (L.map (strideL (ls.drop i) (ds.drop i))) (L.map (strideL (ls.drop (i + 1)) (ds.drop (i + 1)))) j))]) (fun _ => by (simp only [go_sem, seval, reduceCtorEq, dropF_ch, dropF_cons, dropF_nil, cut, cond_true, cond_false]); first | done | rfl) (fun _ => by (simp only [go_sem, seval, reduceCtorEq, cut]); first | done | rfl) (Nat.le_of_ble_eq_true rfl) (by first | (simp only [go_sem, seval, reduceCtorEq, dropF_ch, dropF_cons, dropF_nil, cut, cond_true, cond_false, Int.natCast_zero, Int.natCast_add, Int.natCast_one, mix_zero]; done) | rfl | (simp only [go_sem, seval, reduceCtorEq, dropF_ch, dropF_cons, dropF_nil, cut, cond_true, cond_false, Int.natCast_zero, Int.natCast_add, Int.natCast_one, mix_zero]; rfl)) (by first | (simp only [go_sem, seval, reduceCtorEq, dropF_ch, dropF_cons, dropF_nil, cut, cond_true, cond_false, Int.natCast_zero, Int.natCast_add, Int.natCast_one, mix_zero]; done) | rfl | (simp only [go_sem, seval, reduceCtorEq, dropF_ch, dropF_cons, dropF_nil, cut, cond_true, cond_false, Int.natCast_zero, Int.natCast_add, Int.natCast_one, mix_zero]; rfl)) fun j hj => ?_
    unfold L0_impl_stridesOf
    by_cases hltj : j < L.length
    · have h1 : (j : Int) < L.length := by omega
      have gL : L[j]? = some L[j] := List.getElem?_eq_getElem hltj
      have hmx : (L.map (strideL (ls.drop i) (ds.drop i)))[j]? = some (strideL (ls.drop i) (ds.drop i) L[j]) := by simp [hltj]
      have hmn := mix_next hml hmx
      have hlen : (mix (L.map (strideL (ls.drop i) (ds.drop i))) (L.map (strideL (ls.drop (i + 1)) (ds.drop (i + 1)))) j).length = L.length := by rw [mix_len hml]; simp
      by_cases hx : L[j] = ls[i]
      · have hxe : (L[j] == ls[i]) = true := by simp [hx]
        have hv := hst L[j]
        rw [if_pos hx] at hv
        simp (disch := omega) only [go_sem, seval, reduceCtorEq, h1, gL, gl, c1, c2, hxe]
        refine ⟨by rw [hlen]; omega, ?_⟩
        rw [hv] at hmn
        (refine Next.drop [false, false, false, false, false, false, false, false, true, true, false, false, false, false, false, false, false, false, false, false, false, false, false, false, true, true, true, true, true, true, true, true, true, true, true, true, true, true, true, true, false, false, false, false, false, false, false, false] (by omega) (Nat.le_of_ble_eq_true rfl) ?_ ?_ <;> first | (simp only [go_sem, seval, reduceCtorEq, dropF_ch, dropF_cons, dropF_nil, cut, cond_true, cond_false, Int.natCast_zero, Int.natCast_add, Int.natCast_one, hmn]; done) | rfl | (simp only [go_sem, seval, reduceCtorEq, dropF_ch, dropF_cons, dropF_nil, cut, cond_true, cond_false, Int.natCast_zero, Int.natCast_add, Int.natCast_one, hmn]; rfl) | skip)
      · have hxe : (L[j] == ls[i]) = false := by simp [hx]
        have hv := hst L[j]
        rw [if_neg hx] at hv
        have e2 : mix (L.map (strideL (ls.drop i) (ds.drop i))) (L.map (strideL (ls.drop (i + 1)) (ds.drop (i + 1)))) (j + 1) = mix (L.map (strideL (ls.drop i) (ds.drop i))) (L.map (strideL (ls.drop (i + 1)) (ds.drop (i + 1)))) j := by
          rw [← hmn, put_set (by rw [hlen]; omega)]
          refine List.ext_getElem? fun q => ?_
          rw [List.getElem?_set]
          split
          · rename_i hq
            subst hq
            rw [if_pos (by rw [hlen]; omega), mix_get hml, if_neg (Nat.lt_irrefl _), hv]
            simp [hltj]
          · rfl
        simp (disch := omega) only [go_sem, seval, reduceCtorEq, h1, gL, gl, c1, c2, hxe]
        (refine Next.drop [false, false, false, false, false, false, false, false, true, true, false, false, false, false, false, false, false, false, false, false, false, false, false, false, true, true, true, true, true, true, true, true, true, true, true, true, true, true, true, true, false, false, false, false, false, false, false, false] (by omega) (Nat.le_of_ble_eq_true rfl) ?_ ?_ <;> first | (simp only [go_sem, seval, reduceCtorEq, dropF_ch, dropF_cons, dropF_nil, cut, cond_true, cond_false, Int.natCast_zero, Int.natCast_add, Int.natCast_one, e2]; done) | rfl | (simp only [go_sem, seval, reduceCtorEq, dropF_ch, dropF_cons, dropF_nil, cut, cond_true, cond_false, Int.natCast_zero, Int.natCast_add, Int.natCast_one, e2]; rfl) | skip)
    · have h1 : ¬ (j : Int) < L.length := by omega
      have hf : mix (L.map (strideL (ls.drop i) (ds.drop i))) (L.map (strideL (ls.drop (i + 1)) (ds.drop (i + 1)))) j = L.map (strideL (ls.drop i) (ds.drop i)) := mix_full (by simp; omega) (by simp; omega)
      have e9 : ds.length - (k + 1) = i := by omega
      have e10 : (ds.length : Int) - 1 - (↑k + 1) = i - 1 := by omega
      simp (disch := omega) only [go_sem, seval, reduceCtorEq, h1, c1, c3, gd, hf, hpr]
      (refine Next.drop [false, false, false, false, false, false, false, false, true, true, false, false, false, false, false, false, false, true, true, true, true, true, true, true, true, true, true, true, true, true, true, true, true, true, true, true, true, true, true, true, true, true, true, true, true, true, true, false] (by omega) (Nat.le_of_ble_eq_true rfl) ?_ ?_ <;> first | (simp only [go_sem, seval, reduceCtorEq, dropF_ch, dropF_cons, dropF_nil, cut, cond_true, cond_false, Int.natCast_zero, Int.natCast_add, Int.natCast_one, e9, e10]; done) | rfl | (simp only [go_sem, seval, reduceCtorEq, dropF_ch, dropF_cons, dropF_nil, cut, cond_true, cond_false, Int.natCast_zero, Int.natCast_add, Int.natCast_one, e9, e10]; rfl) | skip)
  · have hk' : k = ds.length := by omega
    have c1 : ¬ (ds.length : Int) - 1 - k ≥ 0 := by omega
    have e0 : ds.length - k = 0 := by omega
    simp (disch := omega) only [go_sem, seval, reduceCtorEq, c1, e0]
    (refine FnEnd.mk (Nat.le_of_ble_eq_true rfl) rfl (of_decide_eq_true rfl) ?_ ?_ <;> try simp only [go_sem, seval, reduceCtorEq])
theorem nextIndex_d {ds : List Int} {n : Int} (hd : ∀ d ∈ ds, 1 ≤ d ∧ d ≤ 1000) (hl : ds.length ≤ 1048576) (h0 : 0 ≤ n) :
    Does Try.prog 57 [.d (ints ds), .own 0 0 ds.length] [some ⟨1, false, iv (digits ds n)⟩] (.d (.bool (decide ((n + 1) % prodI ds ≠ 0)))) [some ⟨1, false, iv (digits ds (n + 1))⟩] := by
  have hd1 : ∀ d ∈ ds, 1 ≤ d := fun d h => (hd d h).1
  have hdl := digits_len ds n
  have hdl1 := digits_len ds (n + 1)
  (refine spec_of (by kernel_rfl) Try.func57 k_impl_nextIndex (fnOk (Nat.le_of_ble_eq_true rfl) ?_); unfold C_impl_nextIndex)
  (simp only [Nat.reduceSub, List.length_cons, List.length_nil, Nat.reduceAdd, ch_init1, ch_init2, ch_init3, ch_init4, ch_init5, ch_init6, ch_init7, ch_init8]; try simp only [ch_rep]); (simp only [go_sem, seval, reduceCtorEq, List.replicate])
  simp (disch := omega) only [go_sem, seval, reduceCtorEq]
  have hz : (digits ds n).take (ds.length - 0) ++ (digits ds (n + 1)).drop (ds.length - 0) = digits ds n := by
    rw [Nat.sub_zero, List.take_of_length_le (by omega), List.drop_eq_nil_of_le (by omega), List.append_nil]
  refine wpN_lpI (ds.length) [false, false, false, false, true, false, false, false, false, true, true, true, true, true, true, true, true, true, true, true, true, true, true, true, true, true, true, true, true, true, true] (fun k => (n + 1) % prodI (ds.drop (ds.length - k)) = 0) (fun k => [(5, .d (.int (ds.length - 1 - k)))]) (fun k => [(0, iv ((digits ds n).take (ds.length - k) ++ (digits ds (n + 1)).drop (ds.length - k)))]) (fun _ => by (simp only [go_sem, seval, reduceCtorEq, dropF_ch, dropF_cons, dropF_nil, cut, cond_true, cond_false]); first | done | rfl) (fun _ => by (simp only [go_sem, seval, reduceCtorEq, cut]); first | done | rfl) (by simp [prodI, Int.emod_one]) (Nat.le_of_ble_eq_true rfl) (by first | (simp only [go_sem, seval, reduceCtorEq, dropF_ch, dropF_cons, dropF_nil, cut, cond_true, cond_false, Int.natCast_zero, Int.natCast_add, Int.natCast_one, hz, Int.sub_zero]; done) | rfl | (simp only [go_sem, seval, reduceCtorEq, dropF_ch, dropF_cons, dropF_nil, cut, cond_true, cond_false, Int.natCast_zero, Int.natCast_add, Int.natCast_one, hz, Int.sub_zero]; rfl)) (by first | (simp only [go_sem, seval, reduceCtorEq, dropF_ch, dropF_cons, dropF_nil, cut, cond_true, cond_false, Int.natCast_zero, Int.natCast_add, Int.natCast_one, hz, Int.sub_zero]; done) | rfl | (simp only [go_sem, seval, reduceCtorEq, dropF_ch, dropF_cons, dropF_nil, cut, cond_true, cond_false, Int.natCast_zero, Int.natCast_add, Int.natCast_one, hz, Int.sub_zero]; rfl)) fun k hk hi => ?_
  unfold L0_impl_nextIndex
  by_cases hlt : k < ds.length
  · obtain ⟨i, hik⟩ : ∃ i, ds.length = k + 1 + i := ⟨ds.length - k - 1, by omega⟩
    have e7 : (ds.length : Int) - 1 - k = i := by omega
    have e8 : ds.length - k = i + 1 := by omega
    have c1 : (i : Int) ≥ 0 := by omega
    have hid : i < ds.length := by omega
    have c3 : (i : Int) < ds.length := by omega
    rw [e8] at hi ⊢
    have hst := digits_step hd1 hid hi
    have hkeep := digits_keep ds n i hd1
    have gd : ds[i]? = some (ds.getD i 0) := by rw [getD_of hid]; exact List.getElem?_eq_getElem hid
    have hdi := hd ds[i] (List.getElem_mem hid)
    rw [← getD_of hid] at hdi
    have hbd := digits_bd ds n hd1 i hid
    have hCl : ((digits ds n).take (i + 1) ++ (digits ds (n + 1)).drop (i + 1)).length = ds.length := by simp; omega
    have hCi : ((digits ds n).take (i + 1) ++ (digits ds (n + 1)).drop (i + 1))[i]? = some ((digits ds n).getD i 0) := by
      rw [List.getElem?_append_left (by simp; omega), List.getElem?_take, if_pos (by omega), getD_of (by omega)]; exact List.getElem?_eq_getElem (by omega)
    have hCs : ∀ v, ((digits ds n).take (i + 1) ++ (digits ds (n + 1)).drop (i + 1)).set i v = (digits ds n).take i ++ v :: (digits ds (n + 1)).drop (i + 1) := fun v => by
      rw [← put_set (by omega)]
      have h1 : ((digits ds n).take (i + 1) ++ (digits ds (n + 1)).drop (i + 1)).take i = (digits ds n).take i := by
        rw [List.take_append_of_le_length (by simp; omega), List.take_take, Nat.min_eq_left (by omega)]
      have h2 : ((digits ds n).take (i + 1) ++ (digits ds (n + 1)).drop (i + 1)).drop (i + 1) = (digits ds (n + 1)).drop (i + 1) := by
        rw [List.drop_append_of_le_length (by simp; omega), List.drop_eq_nil_of_le (by simp; omega), List.nil_append]
      rw [h1, h2, List.append_assoc]; rfl
    generalize (digits ds n).take (i + 1) ++ (digits ds (n + 1)).drop (i + 1) = C at *
    have hput : ∀ v : Int, C.take i ++ [v] ++ C.drop (i + 1) = C.set i v := fun v => put_set (by omega)
    have hput2 : ∀ v w : Int, (C.set i v).take i ++ [w] ++ (C.set i v).drop (i + 1) = C.set i w := fun v w => by rw [put_set (by simp; omega), List.set_set]
    have hget : ∀ v : Int, (C.set i v)[i]? = some v := fun v => by rw [List.getElem?_set, if_pos rfl, if_pos (by omega)]
    have hcl : i + 1 ≤ C.length := by omega
    have hsp : (digits ds (n + 1)).drop i = (digits ds (n + 1)).getD i 0 :: (digits ds (n + 1)).drop (i + 1) := by rw [getD_of (by omega)]; exact List.drop_eq_getElem_cons (by omega)
    simp (disch := omega) only [go_sem, seval, reduceCtorEq, e7, c1, c3, gd, hCi, hput, hget, hput2, hcl, List.length_set]
    by_cases h3 : (digits ds n).getD i 0 + 1 < ds.getD i 0
    · obtain ⟨h4, h5⟩ := hst.1 h3
      have hne : (n + 1) % prodI ds ≠ 0 := by
        intro e
        refine h4 ?_
        have hdvd : prodI (ds.drop i) ∣ prodI ds := by
          have := prodI_append (ds.take i) (ds.drop i)
          rw [List.take_append_drop] at this
          rw [this]
          exact Int.dvd_mul_left _ _
        exact Int.emod_eq_zero_of_dvd (Int.dvd_trans hdvd (Int.dvd_of_emod_eq_zero e))
      have hfin : C.set i ((digits ds n).getD i 0 + 1) = digits ds (n + 1) := by
        rw [hCs, ← hkeep h4 (by omega), ← h5, ← hsp, List.take_append_drop]
      simp (disch := omega) only [go_sem, seval, reduceCtorEq, h3, hfin]
      (refine FnEnd.mk (Nat.le_of_ble_eq_true rfl) rfl (of_decide_eq_true rfl) ?_ ?_ <;> try simp only [go_sem, seval, reduceCtorEq])
      rw [decide_eq_true hne]
    · obtain ⟨h4, h5⟩ := hst.2 h3
      have e9 : ds.length - (k + 1) = i := by omega
      have e10 : (ds.length : Int) - 1 - (↑k + 1) = i - 1 := by omega
      rw [h5] at hsp
      simp (disch := omega) only [go_sem, seval, reduceCtorEq, h3]
      have hI : (n + 1) % prodI (ds.drop (ds.length - (k + 1))) = 0 := by rw [e9]; exact h4
      refine ⟨c3, by simp; omega, ?_⟩
      have hf0 : ∀ v : Int, (C.set i v).take i ++ [0] ++ (C.set i v).drop (i + 1) = (digits ds n).take i ++ (digits ds (n + 1)).drop i := fun v => by rw [hput2, hCs, ← hsp]
      (refine NextI.drop [false, false, false, false, true, false, false, false, false, true, true, true, true, true, true, true, true, true, true, true, true, true, true, true, true, true, true, true, true, true, true] (by omega) (hI) (Nat.le_of_ble_eq_true rfl) ?_ ?_ <;> first | (simp only [go_sem, seval, reduceCtorEq, dropF_ch, dropF_cons, dropF_nil, cut, cond_true, cond_false, Int.natCast_zero, Int.natCast_add, Int.natCast_one, e9, e10, hf0]; done) | rfl | (simp only [go_sem, seval, reduceCtorEq, dropF_ch, dropF_cons, dropF_nil, cut, cond_true, cond_false, Int.natCast_zero, Int.natCast_add, Int.natCast_one, e9, e10, hf0]; rfl) | skip)
  · have hk' : ds.length - k = 0 := by omega
    have c1 : ¬ (ds.length : Int) - 1 - k ≥ 0 := by omega
    rw [hk'] at hi ⊢
    simp (disch := omega) only [go_sem, seval, reduceCtorEq, c1]
    (refine FnEnd.mk (Nat.le_of_ble_eq_true rfl) rfl (of_decide_eq_true rfl) ?_ ?_ <;> try simp only [go_sem, seval, reduceCtorEq])
    have : (n + 1) % prodI ds = 0 := hi
    rw [this]; rfl
theorem l05Index_d {ds : List Int} {n : Int} (hd : ∀ d ∈ ds, 1 ≤ d ∧ d ≤ 1000) (hl : ds.length ≤ 1048576) (h0 : 0 ≤ n ∧ n ≤ 1152921504606846976) :
    Does Try.prog 51 [.d (ints ds), .d (.int n)] [] (.own 0 0 ds.length) [some ⟨1, true, iv (digits ds n)⟩] := by
  have hd1 : ∀ d ∈ ds, 1 ≤ d := fun d h => (hd d h).1
  have hdl := digits_len ds n
  have hpp : ∀ i, 1 ≤ prodI (ds.drop i) := fun i => prodI_pos _ (fun d h => hd1 d (List.mem_of_mem_drop h))
  (refine spec_of (by kernel_rfl) Try.func51 k_spec_l05Index (fnOk (Nat.le_of_ble_eq_true rfl) ?_); unfold C_spec_l05Index)
  (simp only [Nat.reduceSub, List.length_cons, List.length_nil, Nat.reduceAdd, ch_init1, ch_init2, ch_init3, ch_init4, ch_init5, ch_init6, ch_init7, ch_init8]; try simp only [ch_rep]); (simp only [go_sem, seval, reduceCtorEq, List.replicate])
  refine ⟨by omega, ?_⟩
  simp (disch := omega) only [go_sem, seval, reduceCtorEq]
  have hz : (List.replicate ds.length (0 : Int)).take (ds.length - 0) ++ (digits ds n).drop (ds.length - 0) = List.replicate ds.length 0 := by
    rw [Nat.sub_zero, List.take_of_length_le (by simp), List.drop_eq_nil_of_le (by omega), List.append_nil]
  have hz2 : n / prodI (ds.drop (ds.length - 0)) = n := by simp [prodI]
  refine wpN_lp (ds.length) [false, false, false, false, false, false, false, false, false, false, false, false, false, true, true, true, true, true, true, true, true, true, true, true, true, true, true, true, true, true, true, true, false] (fun k => [(1, .d (.int (n / prodI (ds.drop (ds.length - k))))), (6, .d (.int (ds.length - 1 - k)))]) (fun k => [(0, iv ((List.replicate ds.length (0 : Int)).take (ds.length - k) ++ (digits ds n).drop (ds.length - k)))]) (fun _ => by (simp only [go_sem, seval, reduceCtorEq, dropF_ch, dropF_cons, dropF_nil, cut, cond_true, cond_false]); first | done | rfl) (fun _ => by (simp only [go_sem, seval, reduceCtorEq, cut]); first | done | rfl) (Nat.le_of_ble_eq_true rfl) (by first | (simp only [go_sem, seval, reduceCtorEq, dropF_ch, dropF_cons, dropF_nil, cut, cond_true, cond_false, Int.natCast_zero, Int.natCast_add, Int.natCast_one, hz, hz2, Int.sub_zero]; done) | rfl | (simp only [go_sem, seval, reduceCtorEq, dropF_ch, dropF_cons, dropF_nil, cut, cond_true, cond_false, Int.natCast_zero, Int.natCast_add, Int.natCast_one, hz, hz2, Int.sub_zero]; rfl)) (by first | (simp only [go_sem, seval, reduceCtorEq, dropF_ch, dropF_cons, dropF_nil, cut, cond_true, cond_false, Int.natCast_zero, Int.natCast_add, Int.natCast_one, hz, hz2, Int.sub_zero]; done) | rfl | (simp only [go_sem, seval, reduceCtorEq, dropF_ch, dropF_cons, dropF_nil, cut, cond_true, cond_false, Int.natCast_zero, Int.natCast_add, Int.natCast_one, hz, hz2, Int.sub_zero]; rfl)) fun k hk => ?_
  unfold L0_spec_l05Index
  by_cases hlt : k < ds.length
  · obtain ⟨i, hik⟩ : ∃ i, ds.length = k + 1 + i := ⟨ds.length - k - 1, by omega⟩
    have e7 : (ds.length : Int) - 1 - k = i := by omega
    have e8 : ds.length - k = i + 1 := by omega
    have c1 : (i : Int) ≥ 0 := by omega
    have hid : i < ds.length := by omega
    have c3 : (i : Int) < ds.length := by omega
    rw [e8]
    have gd : ds[i]? = some ds[i] := List.getElem?_eq_getElem hid
    have hdi := hd ds[i] (List.getElem_mem hid)
    have hne : ds[i] ≠ 0 := by omega
    have hP := hpp (i + 1)
    have hq : 0 ≤ n / prodI (ds.drop (i + 1)) := Int.ediv_nonneg h0.1 (by omega)
    have hqb : n / prodI (ds.drop (i + 1)) ≤ n := Int.ediv_le_self _ h0.1
    have hdg : (n / prodI (ds.drop (i + 1))).tmod ds[i] = (digits ds n).getD i 0 := by rw [tm hq, digits_get _ _ _ hid, digit, getD_of hid]
    have hdv : (n / prodI (ds.drop (i + 1))).tdiv ds[i] = n / prodI (ds.drop i) := by
      rw [Int.tdiv_eq_ediv_of_nonneg hq, ← quot_step ds n i hid hd1, getD_of hid]
    have hdvb : 0 ≤ n / prodI (ds.drop i) := Int.ediv_nonneg h0.1 (by have := hpp i; omega)
    have hdvc : n / prodI (ds.drop i) ≤ n := Int.ediv_le_self _ h0.1
    have hCl : ((List.replicate ds.length (0 : Int)).take (i + 1) ++ (digits ds n).drop (i + 1)).length = ds.length := by simp; omega
    have hCs : ((List.replicate ds.length (0 : Int)).take (i + 1) ++ (digits ds n).drop (i + 1)).take i ++ [(digits ds n).getD i 0] ++ ((List.replicate ds.length (0 : Int)).take (i + 1) ++ (digits ds n).drop (i + 1)).drop (i + 1) = (List.replicate ds.length (0 : Int)).take i ++ (digits ds n).drop i := by
      have h1 : ((List.replicate ds.length (0 : Int)).take (i + 1) ++ (digits ds n).drop (i + 1)).take i = (List.replicate ds.length (0 : Int)).take i := by
        rw [List.take_append_of_le_length (by simp; omega), List.take_take, Nat.min_eq_left (by omega)]
      have h2 : ((List.replicate ds.length (0 : Int)).take (i + 1) ++ (digits ds n).drop (i + 1)).drop (i + 1) = (digits ds n).drop (i + 1) := by
        rw [List.drop_append_of_le_length (by simp; omega), List.drop_eq_nil_of_le (by simp; omega), List.nil_append]
      rw [h1, h2, List.append_assoc, getD_of (by omega), List.singleton_append, ← List.drop_eq_getElem_cons]
    generalize (List.replicate ds.length (0 : Int)).take (i + 1) ++ (digits ds n).drop (i + 1) = C at *
    have hcl : i + 1 ≤ C.length := by omega
    have e9 : ds.length - (k + 1) = i := by omega
    have e10 : (ds.length : Int) - 1 - (↑k + 1) = i - 1 := by omega
    simp (disch := omega) only [go_sem, seval, reduceCtorEq, e7, c1, c3, gd, hne, hdg, hdv, hcl, ne_eq, not_false_eq_true]
    (refine Next.drop [false, false, false, false, false, false, false, false, false, false, false, false, false, true, true, true, true, true, true, true, true, true, true, true, true, true, true, true, true, true, true, true, false] (by omega) (Nat.le_of_ble_eq_true rfl) ?_ ?_ <;> first | (simp only [go_sem, seval, reduceCtorEq, dropF_ch, dropF_cons, dropF_nil, cut, cond_true, cond_false, Int.natCast_zero, Int.natCast_add, Int.natCast_one, e9, e10, hCs]; done) | rfl | (simp only [go_sem, seval, reduceCtorEq, dropF_ch, dropF_cons, dropF_nil, cut, cond_true, cond_false, Int.natCast_zero, Int.natCast_add, Int.natCast_one, e9, e10, hCs]; rfl) | skip)
  · have hk' : ds.length - k = 0 := by omega
    have c1 : ¬ (ds.length : Int) - 1 - k ≥ 0 := by omega
    rw [hk']
    simp (disch := omega) only [go_sem, seval, reduceCtorEq, c1]
    (refine FnEnd.mk (Nat.le_of_ble_eq_true rfl) rfl (of_decide_eq_true rfl) ?_ ?_ <;> try simp only [go_sem, seval, reduceCtorEq])
end Go.Proofs.Ytmggkcifakbfeaa

/-
  Contracts: permuted tensors. No condition.
-/
namespace Go.Proofs.Ytmggkcifakbfeaa
open Go.RowKit Go.Lift Plain
set_option linter.unusedSimpArgs false
set_option linter.unusedVariables false
set_option maxRecDepth 100000

/-! ### A tensor with its axes in another order -/
def permD (t : Ten) (L : List Int) : List Int := L.map (dimAt t)
def permOff (t : Ten) (L : List Int) (i : Nat) : Nat := (dotI (L.map (strideL t.labels t.dims)) (digits (permD t L) i)).toNat
def permN (t : Ten) (L : List Int) : Nat := (prodI (permD t L)).toNat
def permR (wd : Nat) (t : Ten) (L : List Int) : Ten := ⟨L, permD t L, gath t.data wd (permOff t L) (permN t L)⟩
structure PermOk (t : Ten) (L : List Int) (wd n : Nat) : Prop where
  ax : axOk t.labels t.dims
  pn : prodI t.dims = n
  n1 : 1 ≤ n ∧ n ≤ 4096
  w1 : 1 ≤ wd ∧ wd ≤ 6
  dl : t.data.length = n * wd
  same : sameB t.labels L = true
namespace PermOk
variable {t : Ten} {L : List Int} {wd n : Nat}
theorem len (h : PermOk t L wd n) : L.length = t.labels.length := (of_decide_eq_true h.same).1
theorem sub (h : PermOk t L wd n) : ∀ x ∈ L, x ∈ t.labels := fun x hx => by
  obtain ⟨k, hk, rfl⟩ := List.mem_iff_getElem.1 hx
  exact ((of_decide_eq_true h.same).2 k hk).1
theorem nodup (h : PermOk t L wd n) : L.Nodup := nodup_of_fresh fun k hk => ((of_decide_eq_true h.same).2 k hk).2
theorem sup (h : PermOk t L wd n) : ∀ x ∈ t.labels, x ∈ L := sub_back h.nodup h.sub (Nat.le_of_eq h.len.symm)
theorem len12 (h : PermOk t L wd n) : L.length ≤ 12 := by have := h.len; have := h.ax.1; omega
theorem dbd (h : PermOk t L wd n) : ∀ d ∈ permD t L, 1 ≤ d ∧ d ≤ 8 := fun d hd => by
  simp only [permD, List.mem_map] at hd
  obtain ⟨x, hx, rfl⟩ := hd
  exact dimAt_bd h.ax (h.sub x hx)
theorem pbd (h : PermOk t L wd n) : 1 ≤ prodI (permD t L) ∧ prodI (permD t L) ≤ n := by
  refine ⟨prodI_pos _ (fun d hd => (h.dbd d hd).1), ?_⟩
  have := prodI_sub_le (f := dimAt t) h.nodup h.sub (fun x hx => (dimAt_bd h.ax hx).1)
  rw [dims_map h.ax, h.pn] at this
  exact this
theorem pN (h : PermOk t L wd n) : prodI (permD t L) = permN t L := by have := h.pbd; unfold permN; omega
theorem idx (h : PermOk t L wd n) (i : Nat) : idxOk t.dims (t.labels.map (atL L (digits (permD t L) i))) := by
  refine ⟨by simp [h.ax.len], fun k hk => ?_⟩
  have hk' : k < t.labels.length := by have := h.ax.len; omega
  have hm := h.sup t.labels[k] (List.getElem_mem hk')
  obtain ⟨q, h1, h2, h3, h4⟩ := atL_mem (xs := digits (permD t L) i) hm (by simp [digits_len, permD])
  have h5 := digits_bd (permD t L) i (fun d hd => (h.dbd d hd).1) q (by simpa [permD] using h1)
  have h6 : (permD t L).getD q 0 = t.dims.getD k 0 := by
    rw [getD_of (by simpa [permD] using h1), getD_of hk]
    have h7 : L[q] = t.labels[k] := by rw [List.getElem?_eq_getElem h1] at h3; simpa using h3
    simp only [permD, List.getElem_map, h7]
    exact dimAt_at h.ax hk' hk
  unfold idxAt
  have h8 : (t.labels.map (atL L (digits (permD t L) i))).getD k 0 = atL L (digits (permD t L) i) t.labels[k] := by rw [getD_of (by simpa using hk')]; simp
  rw [h8, h4, ← h6]
  exact h5
theorem off (h : PermOk t L wd n) (i : Nat) : dotI (L.map (strideL t.labels t.dims)) (digits (permD t L) i) = permOff t L i ∧ permOff t L i < n ∧ offs t.dims (t.labels.map (atL L (digits (permD t L) i))) = permOff t L i := by
  have h1 := off_labels h.ax.len (axOk_nodup h.ax) h.nodup h.sup (xs := digits (permD t L) i) (by simp [digits_len, permD])
  have h2 := offs_bd _ _ _ h.ax (h.idx i)
  have h3 := h.pn
  unfold permOff
  rw [h1]
  omega
theorem cut (h : PermOk t L wd n) (i : Nat) : permOff t L i * wd + wd ≤ t.data.length := by
  rw [h.dl]; exact mul_step (h.off i).2.1
theorem dotb (h : PermOk t L wd n) (i k : Nat) : 0 ≤ (L.map (strideL t.labels t.dims)).getD k 0 * (digits (permD t L) i).getD k 0 ∧ (L.map (strideL t.labels t.dims)).getD k 0 * (digits (permD t L) i).getD k 0 ≤ 16777216 := by
  by_cases hk : k < L.length
  · have h1 := digits_bd (permD t L) i (fun d hd => (h.dbd d hd).1) k (by simpa [permD] using hk)
    have h2 := h.dbd ((permD t L).getD k 0) (by rw [getD_of (by simpa [permD] using hk)]; exact List.getElem_mem _)
    have h3 := strideL_bd t.labels t.dims L[k] (fun d hd => (h.ax.dim d hd).1)
    have h4 := h.pn
    have h5 := h.n1
    rw [getD_of (show k < (L.map (strideL t.labels t.dims)).length by simpa using hk), List.getElem_map]
    generalize (digits (permD t L) i).getD k 0 = x at *
    generalize strideL t.labels t.dims L[k] = s at *
    refine ⟨Int.mul_nonneg h3.1 h1.1, ?_⟩
    have : s * x ≤ s * 8 := Int.mul_le_mul_of_nonneg_left (by omega) h3.1
    omega
  · have : (L.map (strideL t.labels t.dims)).getD k 0 = 0 := by simp [List.getD_eq_getElem?_getD, List.getElem?_eq_none (Nat.le_of_not_lt hk)]
    rw [this]; simp
end PermOk
theorem rawPermute_d {kk pp nn : Int} {t : Ten} {L : List Int} {wd n : Nat} (hw : width ⟨kk, pp, nn⟩ = wd) (h : PermOk t L wd n) (hs : TSz 1048576 t) (hL : Sz 1048576 L) :
    Does Try.prog 47 [ringA kk pp nn, tenA t, .d (ints L)] [] (ownT 0 (permR wd t L)) (stoF (permR wd t L)) := by
  have hl12 := h.len12
  have hll := h.len
  have hal := h.ax.len
  have hpl : (permD t L).length = L.length := by simp [permD]
  have hxl := hs.x.len
  (refine spec_of (by kernel_rfl) Try.func47 k_impl_rawPermute (fnOk (Nat.le_of_ble_eq_true rfl) ?_); unfold C_impl_rawPermute)
  (simp only [Nat.reduceSub, List.length_cons, List.length_nil, Nat.reduceAdd, ch_init1, ch_init2, ch_init3, ch_init4, ch_init5, ch_init6, ch_init7, ch_init8]; try simp only [ch_rep]); (simp only [go_sem, seval, reduceCtorEq, List.replicate])
  (refine gi_call (copyInts_d (xs := L) (by omega)) ?_ ?_ ?_; (focus (simp only [go_sem, seval, reduceCtorEq]; done)); (first | rfl | (focus (simp only [go_sem]; done))))
  simp (disch := omega) only [go_sem, seval, reduceCtorEq]
  refine ⟨by omega, ?_⟩
  refine wpN_lp (L.length) [false, false, false, false, false, false, false, false, true, true, false, false, false, false, false, false, false, false, false, false, false, true, true, true, true, true, true, true, true, true, true, true, true, true, true, true, true, false, false, false, false, false, false, false, false, false, false, false, false, false, false, false, false, false, false, false, false, false, false] (fun k => [(20, .d (.int k))]) (fun k => [(4, iv (mix (permD t L) (List.replicate L.length 0) k))]) (fun _ => by (simp only [go_sem, seval, reduceCtorEq, dropF_ch, dropF_cons, dropF_nil, cut, cond_true, cond_false]); first | done | rfl) (fun _ => by (simp only [go_sem, seval, reduceCtorEq, cut]); first | done | rfl) (Nat.le_of_ble_eq_true rfl) (by first | (simp only [go_sem, seval, reduceCtorEq, dropF_ch, dropF_cons, dropF_nil, cut, cond_true, cond_false, Int.natCast_zero, Int.natCast_add, Int.natCast_one, mix_zero]; done) | rfl | (simp only [go_sem, seval, reduceCtorEq, dropF_ch, dropF_cons, dropF_nil, cut, cond_true, cond_false, Int.natCast_zero, Int.natCast_add, Int.natCast_one, mix_zero]; rfl)) (by first | (simp only [go_sem, seval, reduceCtorEq, dropF_ch, dropF_cons, dropF_nil, cut, cond_true, cond_false, Int.natCast_zero, Int.natCast_add, Int.natCast_one, mix_zero]; done) | rfl | (simp only [go_sem, seval, reduceCtorEq, dropF_ch, dropF_cons, dropF_nil, cut, cond_true, cond_false, Int.natCast_zero, Int.natCast_add, Int.natCast_one, mix_zero]; rfl)) fun k hk => ?_
  unfold L1_impl_rawPermute
  by_cases hlt : k < L.length
  · have c1 : (k : Int) < L.length := by omega
    have g : L[k]? = some L[k] := List.getElem?_eq_getElem hlt
    have hm := h.sub L[k] (List.getElem_mem hlt)
    obtain ⟨i, hi1, hi2, hi3, hi4⟩ := dimAt_get hal hm
    have c2 : (i : Int) < t.dims.length := by omega
    have hmx : (permD t L)[k]? = some (dimAt t L[k]) := by simp [permD, hlt]
    have hmn := mix_next (l := permD t L) (r := List.replicate L.length 0) (by simp [hpl]) hmx
    have hlen : (mix (permD t L) (List.replicate L.length 0) k).length = L.length := by rw [mix_len (by simp [hpl])]; exact hpl
    simp (disch := omega) only [go_sem, seval, reduceCtorEq, c1, g]
    (refine gi_call (axisOf_d (t := t) (x := L[k]) hs.l.up.len) ?_ ?_ ?_; (focus (simp only [go_sem, seval, reduceCtorEq]; done)); (first | rfl | (focus (simp only [go_sem]; done))))
    simp (disch := omega) only [go_sem, seval, reduceCtorEq, hi3, c2, hi4, c1]
    refine ⟨by rw [hlen]; omega, ?_⟩
    (refine Next.drop [false, false, false, false, false, false, false, false, true, true, false, false, false, false, false, false, false, false, false, false, false, true, true, true, true, true, true, true, true, true, true, true, true, true, true, true, true, false, false, false, false, false, false, false, false, false, false, false, false, false, false, false, false, false, false, false, false, false, false] (by omega) (Nat.le_of_ble_eq_true rfl) ?_ ?_ <;> first | (simp only [go_sem, seval, reduceCtorEq, dropF_ch, dropF_cons, dropF_nil, cut, cond_true, cond_false, Int.natCast_zero, Int.natCast_add, Int.natCast_one, hmn]; done) | rfl | (simp only [go_sem, seval, reduceCtorEq, dropF_ch, dropF_cons, dropF_nil, cut, cond_true, cond_false, Int.natCast_zero, Int.natCast_add, Int.natCast_one, hmn]; rfl) | skip)
  · have c1 : ¬ (k : Int) < L.length := by omega
    have hf : mix (permD t L) (List.replicate L.length 0) k = permD t L := mix_full (by simp; omega) (by omega)
    simp (disch := omega) only [go_sem, seval, reduceCtorEq, c1, hf]
    have hN := h.pbd
    have hpn := h.pn
    have hn1 := h.n1
    (refine ti_call (stridesOf_d (t := t) (L := L) h.ax (by omega) (by omega)) ?_ ?_ ?_; (focus (simp only [go_sem, seval, reduceCtorEq]; done)); (first | rfl | (focus (simp only [go_sem]; done))))
    simp (disch := omega) only [go_sem, seval, reduceCtorEq]
    refine ⟨by omega, ?_⟩
    (refine wpN_lwk (Wk.nilS 5 2 1 _ _ _ rfl rfl) ?_; simp only [go_sem, seval, reduceCtorEq])
    have hd0 : digits (permD t L) 0 = List.replicate L.length 0 := by
      refine List.ext_getElem (by simp [digits_len, hpl]) fun q h1 h2 => ?_
      have h3 : q < (permD t L).length := by simpa [digits_len] using h1
      have h4 := h.dbd (permD t L)[q] (List.getElem_mem h3)
      have h5 := digits_get (permD t L) 0 q h3
      rw [getD_of h1] at h5
      rw [h5]
      simp [digit]
    have hNN := h.pN
    refine wpN_lpS (0) (fun i => permN t L - i) [false, false, false, false, false, false, false, false, false, false, false, false, false, false, false, false, false, false, false, false, false, false, false, false, false, false, false, false, false, false, false, false, false, false, false, false, false, false, false, false, false, false, false, true, true, true, true, true, true, true, true, true, true, true, true, true, true, true, true] (fun i => i < permN t L) (fun i => []) (fun i => [(5, [.own 3 0 L.length, .own 4 0 L.length, .own 8 0 (i * wd)]), (7, iv (digits (permD t L) (i : Int))), (8, iv (gath t.data wd (permOff t L) i))]) (fun _ => by (simp only [go_sem, seval, reduceCtorEq, dropF_ch, dropF_cons, dropF_nil, cut, cond_true, cond_false]); first | done | rfl) (fun _ => by (simp only [go_sem, seval, reduceCtorEq, cut]); first | done | rfl) (by omega) (Nat.le_of_ble_eq_true rfl) (by first | (simp only [go_sem, seval, reduceCtorEq, dropF_ch, dropF_cons, dropF_nil, cut, cond_true, cond_false, Int.natCast_zero, Int.natCast_add, Int.natCast_one, hd0, gath, Nat.zero_mul]; done) | rfl | (simp only [go_sem, seval, reduceCtorEq, dropF_ch, dropF_cons, dropF_nil, cut, cond_true, cond_false, Int.natCast_zero, Int.natCast_add, Int.natCast_one, hd0, gath, Nat.zero_mul]; rfl)) (by first | (simp only [go_sem, seval, reduceCtorEq, dropF_ch, dropF_cons, dropF_nil, cut, cond_true, cond_false, Int.natCast_zero, Int.natCast_add, Int.natCast_one, hd0, gath, Nat.zero_mul]; done) | rfl | (simp only [go_sem, seval, reduceCtorEq, dropF_ch, dropF_cons, dropF_nil, cut, cond_true, cond_false, Int.natCast_zero, Int.natCast_add, Int.natCast_one, hd0, gath, Nat.zero_mul]; rfl)) fun i hi => ?_
    unfold L0_impl_rawPermute
    have hdl : (digits (permD t L) i).length = L.length := by simp [digits_len, hpl]
    have hdl2 : (digits (permD t L) (i + 1)).length = L.length := by simp [digits_len, hpl]
    have ht1 : List.take L.length (L.map (strideL t.labels t.dims)) = L.map (strideL t.labels t.dims) := List.take_of_length_le (by simp)
    have ht2 : List.take L.length (digits (permD t L) i) = digits (permD t L) i := List.take_of_length_le (by omega)
    have ht3 : List.take L.length (permD t L) = permD t L := List.take_of_length_le (by omega)
    have hoff := (h.off i).1
    have hcut := h.cut i
    have hst := mul_step (wd := wd) hi
    have hNn : permN t L * wd ≤ n * wd := Nat.mul_le_mul_right wd (by omega)
    have hdl3 := h.dl
    have hgl : (gath t.data wd (permOff t L) i).length = i * wd := gath_len fun q _ => h.cut q
    have hwb := h.w1
    have hofn := (h.off i).2.1
    simp only [go_sem, seval, reduceCtorEq]
    (refine gi_call (dotOf_d (a := L.map (strideL t.labels t.dims)) (b := digits (permD t L) i) (by simp [hdl]) (by simp; omega) (fun q _ => h.dotb i q)) ?_ ?_ ?_; (focus (simp only [go_sem, seval, reduceCtorEq, ht1, ht2, hdl]; done)); (first | rfl | (focus (simp only [go_sem]; done))))
    simp only [go_sem, seval, reduceCtorEq, hoff]
    (refine gi_call (rawElem_d (t := t) (x := permOff t L i) hw (by omega) hcut (by omega) (by omega)) ?_ ?_ ?_; (focus (simp only [go_sem, seval, reduceCtorEq]; done)); (first | rfl | (focus (simp only [go_sem]; done))))
    have hcl := cut_len hcut
    have hcd : wd ≤ ((t.data.drop (permOff t L i * wd)).take wd).length := by omega
    have htt : List.take wd (List.take wd (List.drop (permOff t L i * wd) t.data)) = List.take wd (List.drop (permOff t L i * wd) t.data) := List.take_of_length_le (by omega)
    simp (disch := omega) only [go_sem, seval, reduceCtorEq, hcl, hgl, htt]
    refine ⟨by omega, ?_⟩
    (refine ti_callw [7] false (nextIndex_d (ds := permD t L) (n := i) (fun d hd => by have := h.dbd d hd; omega) (by omega) (by omega)) (of_decide_eq_true rfl) ?_ ?_ ?_ ?_ (of_decide_eq_true rfl) ?_; (focus (simp only [go_sem, seval, reduceCtorEq, hpl, ht3, hdl, hdl2]; done)); (focus (simp only [go_sem, seval, reduceCtorEq]; done)); (focus (simp only [go_sem, seval, reduceCtorEq, hpl, ht3, hdl, hdl2]; done)); (focus (simp only [go_sem, seval, reduceCtorEq]; done)))
    by_cases hlast : i + 1 < permN t L
    · have hde : decide (((i : Int) + 1) % prodI (permD t L) ≠ 0) = true := by
        rw [hNN, Int.emod_eq_of_lt (by omega) (by omega)]
        exact decide_eq_true (by omega)
      simp (disch := omega) only [go_sem, seval, reduceCtorEq, hde]
      (refine NextS.drop [false, false, false, false, false, false, false, false, false, false, false, false, false, false, false, false, false, false, false, false, false, false, false, false, false, false, false, false, false, false, false, false, false, false, false, false, false, false, false, false, false, false, false, true, true, true, true, true, true, true, true, true, true, true, true, true, true, true, true] (i + 1) (by omega) (by omega) (Nat.le_of_ble_eq_true rfl) ?_ ?_ <;> first | (simp only [go_sem, seval, reduceCtorEq, dropF_ch, dropF_cons, dropF_nil, cut, cond_true, cond_false, Int.natCast_zero, Int.natCast_add, Int.natCast_one, gath, Nat.add_mul, Nat.one_mul]; done) | rfl | (simp only [go_sem, seval, reduceCtorEq, dropF_ch, dropF_cons, dropF_nil, cut, cond_true, cond_false, Int.natCast_zero, Int.natCast_add, Int.natCast_one, gath, Nat.add_mul, Nat.one_mul]; rfl) | skip)
    · have hde : decide (((i : Int) + 1) % prodI (permD t L) ≠ 0) = false := by
        have : (i : Int) + 1 = permN t L := by omega
        rw [hNN, this, Int.emod_self]
        rfl
      have hN1 : permN t L = i + 1 := by omega
      have hst1 : (i + 1) * wd = i * wd + wd := by rw [Nat.add_mul, Nat.one_mul]
      have hgl2 : (gath t.data wd (permOff t L) (i + 1)).length = i * wd + wd := by rw [gath_len fun q _ => h.cut q, hst1]
      simp (disch := omega) only [go_sem, seval, reduceCtorEq, hde]
      refine FnEnd.wk Wk.nogA ?_
      (refine FnEnd.mk (Nat.le_of_ble_eq_true rfl) rfl (of_decide_eq_true rfl) ?_ ?_ <;> try simp only [go_sem, seval, reduceCtorEq])
      rw [gath] at hgl2
      all_goals simp only [permR, hN1, hpl, hgl2, gath]
end Go.Proofs.Ytmggkcifakbfeaa

/-
  Contracts: permuted tensors, by the reference. No condition.
-/
namespace Go.Proofs.Ytmggkcifakbfeaa
open Go.RowKit Go.Lift Plain
set_option linter.unusedSimpArgs false
set_option linter.unusedVariables false
set_option maxRecDepth 100000

theorem l06Permute_d {kk pp nn : Int} {t : Ten} {L : List Int} {wd n : Nat} (hw : width ⟨kk, pp, nn⟩ = wd) (h : PermOk t L wd n) (hs : TSz 1048576 t) (hL : Sz 1048576 L) :
    Does Try.prog 39 [ringA kk pp nn, tenA t, .d (ints L)] [] (ownT 0 (permR wd t L)) (stoF (permR wd t L)) := by
  have hl12 := h.len12
  have hll := h.len
  have hal := h.ax.len
  have hpl : (permD t L).length = L.length := by simp [permD]
  have hxl := hs.x.len
  (refine spec_of (by kernel_rfl) Try.func39 k_spec_l06Permute (fnOk (Nat.le_of_ble_eq_true rfl) ?_); unfold C_spec_l06Permute)
  (simp only [Nat.reduceSub, List.length_cons, List.length_nil, Nat.reduceAdd, ch_init1, ch_init2, ch_init3, ch_init4, ch_init5, ch_init6, ch_init7, ch_init8]; try simp only [ch_rep]); (simp only [go_sem, seval, reduceCtorEq, List.replicate])
  have hpt : ∀ k, k < L.length → (permD t L).take (k + 1) = (permD t L).take k ++ [dimAt t (L.getD k 0)] := fun k hk => by
    rw [take_ss (by omega), getD_of hk]; simp [permD]
  have hat : ∀ k, k < L.length → (L.map (place t.labels)).take (k + 1) = (L.map (place t.labels)).take k ++ [place t.labels (L.getD k 0)] := fun k hk => by
    rw [take_ss (by simpa using hk), getD_of hk]; simp
  refine wpN_lp (L.length) [false, false, false, false, false, false, false, false, false, false, true, true, false, false, false, false, false, true, true, false, false, false, true, true, true, true, true, true, true, true, true, true, true, true, true, true, true, true, true, true, true, true, false, false, false, false, false, false, false, false, false, false, false, false, false, false, false, false, false, false, false, false, false, false, false, false, false, false, false, false, false, false, false, false, false, false, false, false, false, false, false, false, false, false] (fun k => [(7, .own 3 0 k), (8, .own 4 0 k), (21, .d (.int k))]) (fun k => [(3, iv ((permD t L).take k)), (4, iv ((L.map (place t.labels)).take k))]) (fun _ => by (simp only [go_sem, seval, reduceCtorEq, dropF_ch, dropF_cons, dropF_nil, cut, cond_true, cond_false]); first | done | rfl) (fun _ => by (simp only [go_sem, seval, reduceCtorEq, cut]); first | done | rfl) (Nat.le_of_ble_eq_true rfl) (by first | (simp only [go_sem, seval, reduceCtorEq, dropF_ch, dropF_cons, dropF_nil, cut, cond_true, cond_false, Int.natCast_zero, Int.natCast_add, Int.natCast_one, List.take_zero, iv_nil]; done) | rfl | (simp only [go_sem, seval, reduceCtorEq, dropF_ch, dropF_cons, dropF_nil, cut, cond_true, cond_false, Int.natCast_zero, Int.natCast_add, Int.natCast_one, List.take_zero, iv_nil]; rfl)) (by first | (simp only [go_sem, seval, reduceCtorEq, dropF_ch, dropF_cons, dropF_nil, cut, cond_true, cond_false, Int.natCast_zero, Int.natCast_add, Int.natCast_one, List.take_zero, iv_nil]; done) | rfl | (simp only [go_sem, seval, reduceCtorEq, dropF_ch, dropF_cons, dropF_nil, cut, cond_true, cond_false, Int.natCast_zero, Int.natCast_add, Int.natCast_one, List.take_zero, iv_nil]; rfl)) fun k hk => ?_
  unfold L2_spec_l06Permute
  by_cases hlt : k < L.length
  · have c1 : (k : Int) < L.length := by omega
    have g : L[k]? = some (L.getD k 0) := by rw [getD_of hlt]; exact List.getElem?_eq_getElem hlt
    have hm := h.sub L[k] (List.getElem_mem hlt)
    rw [← getD_of hlt] at hm
    obtain ⟨i, hi1, hi2, hi3, hi4⟩ := dimAt_get hal hm
    have c2 : (i : Int) < t.dims.length := by omega
    have l1 : ((permD t L).take k).length = k := by simp; omega
    have l2 : ((L.map (place t.labels)).take k).length = k := by simp; omega
    simp (disch := omega) only [go_sem, seval, reduceCtorEq, c1, g]
    (refine ti_call (l05Find_d (xs := t.labels) (x := L.getD k 0) hs.l.up.len) ?_ ?_ ?_; (focus (simp only [go_sem, seval, reduceCtorEq]; done)); (first | rfl | (focus (simp only [go_sem]; done))))
    simp (disch := omega) only [go_sem, seval, reduceCtorEq, hi3, c2, hi4, c1, l1, l2]
    refine ⟨by omega, by omega, ?_⟩
    have hd1 := hpt k hlt
    have ha1 := hat k hlt
    rw [hi3] at ha1
    (refine Next.drop [false, false, false, false, false, false, false, false, false, false, true, true, false, false, false, false, false, true, true, false, false, false, true, true, true, true, true, true, true, true, true, true, true, true, true, true, true, true, true, true, true, true, false, false, false, false, false, false, false, false, false, false, false, false, false, false, false, false, false, false, false, false, false, false, false, false, false, false, false, false, false, false, false, false, false, false, false, false, false, false, false, false, false, false] (by omega) (Nat.le_of_ble_eq_true rfl) ?_ ?_ <;> first | (simp only [go_sem, seval, reduceCtorEq, dropF_ch, dropF_cons, dropF_nil, cut, cond_true, cond_false, Int.natCast_zero, Int.natCast_add, Int.natCast_one, hd1, ha1]; done) | rfl | (simp only [go_sem, seval, reduceCtorEq, dropF_ch, dropF_cons, dropF_nil, cut, cond_true, cond_false, Int.natCast_zero, Int.natCast_add, Int.natCast_one, hd1, ha1]; rfl) | skip)
  · have c1 : ¬ (k : Int) < L.length := by omega
    have f1 : (permD t L).take k = permD t L := List.take_of_length_le (by omega)
    have f2 : (L.map (place t.labels)).take k = L.map (place t.labels) := List.take_of_length_le (by simp; omega)
    have hkl : k = L.length := by omega
    subst hkl
    simp (disch := omega) only [go_sem, seval, reduceCtorEq, c1, f1, f2]
    (refine ti_call (l05Ints_d (xs := L) (by omega)) ?_ ?_ ?_; (focus (simp only [go_sem, seval, reduceCtorEq]; done)); (first | rfl | (focus (simp only [go_sem]; done))))
    simp (disch := omega) only [go_sem, seval, reduceCtorEq]
    refine ⟨by omega, ?_⟩
    (refine wpN_lwk (Wk.nilS 6 2 1 _ _ _ rfl rfl) ?_; simp only [go_sem, seval, reduceCtorEq])
    have hNN := h.pN
    have hN := h.pbd
    have hn1 := h.n1
    have hwb := h.w1
    have hNn : permN t L * wd ≤ n * wd := Nat.mul_le_mul_right wd (by omega)
    have hdl3 := h.dl
    have htp : List.take L.length (permD t L) = permD t L := List.take_of_length_le (by omega)
    generalize hX : (fun i : Nat => if i = 0 then List.replicate L.length 0 else t.labels.map (atL L (digits (permD t L) ((i - 1 : Nat) : Int)))) = X
    have hX0 : X 0 = List.replicate L.length 0 := by rw [← hX]; rfl
    have hXs : ∀ i, X (i + 1) = t.labels.map (atL L (digits (permD t L) i)) := fun i => by rw [← hX]; simp
    have hXl : ∀ i, (X i).length = t.labels.length := fun i => by rw [← hX]; simp only; split <;> simp [hll]
    refine wpN_lp (permN t L) [false, false, false, false, false, false, false, false, false, false, false, false, false, false, false, true, true, false, false, false, false, false, false, false, false, false, false, false, false, false, false, false, false, false, false, false, false, false, false, false, false, false, false, false, false, false, false, false, false, true, true, true, true, true, true, true, true, true, true, true, true, true, true, true, true, true, true, true, true, true, true, true, true, true, true, true, true, true, true, true, true, true, true, false] (fun i => [(14, .d (.int i))]) (fun i => [(6, [.own 5 0 L.length, .own 3 0 L.length, .own 8 0 (i * wd)]), (7, iv (X i)), (8, iv (gath t.data wd (permOff t L) i))]) (fun _ => by (simp only [go_sem, seval, reduceCtorEq, dropF_ch, dropF_cons, dropF_nil, cut, cond_true, cond_false]); first | done | rfl) (fun _ => by (simp only [go_sem, seval, reduceCtorEq, cut]); first | done | rfl) (Nat.le_of_ble_eq_true rfl) (by first | (simp only [go_sem, seval, reduceCtorEq, dropF_ch, dropF_cons, dropF_nil, cut, cond_true, cond_false, Int.natCast_zero, Int.natCast_add, Int.natCast_one, hX0, gath, Nat.zero_mul, iv_nil]; done) | rfl | (simp only [go_sem, seval, reduceCtorEq, dropF_ch, dropF_cons, dropF_nil, cut, cond_true, cond_false, Int.natCast_zero, Int.natCast_add, Int.natCast_one, hX0, gath, Nat.zero_mul, iv_nil]; rfl)) (by first | (simp only [go_sem, seval, reduceCtorEq, dropF_ch, dropF_cons, dropF_nil, cut, cond_true, cond_false, Int.natCast_zero, Int.natCast_add, Int.natCast_one, hX0, gath, Nat.zero_mul, iv_nil]; done) | rfl | (simp only [go_sem, seval, reduceCtorEq, dropF_ch, dropF_cons, dropF_nil, cut, cond_true, cond_false, Int.natCast_zero, Int.natCast_add, Int.natCast_one, hX0, gath, Nat.zero_mul, iv_nil]; rfl)) fun i hi => ?_
    unfold L1_spec_l06Permute
    simp only [go_sem, seval, reduceCtorEq]
    (refine ti_call (l05Product_d (ds := permD t L) (lim := 4096) (by omega) (fun d hd => by have := h.dbd d hd; omega) (by omega)) ?_ ?_ ?_; (focus (simp only [go_sem, seval, reduceCtorEq, hpl, htp]; done)); (first | rfl | (focus (simp only [go_sem]; done))))
    have hmn : min (prodI (permD t L)) 4097 = permN t L := by omega
    by_cases hlti : i < permN t L
    · have c2 : (i : Int) < permN t L := by omega
      have hst := mul_step (wd := wd) hlti
      simp (disch := omega) only [go_sem, seval, reduceCtorEq, hmn, c2]
      (refine ti_call (l05Index_d (ds := permD t L) (n := i) (fun d hd => by have := h.dbd d hd; omega) (by omega) (by omega)) ?_ ?_ ?_; (focus (simp only [go_sem, seval, reduceCtorEq, hpl, htp]; done)); (first | rfl | (focus (simp only [go_sem]; done))))
      simp (disch := omega) only [go_sem, seval, reduceCtorEq, hpl]
      generalize hxs : digits (permD t L) i = xs at *
      have hxl2 : xs.length = L.length := by rw [← hxs]; simp [digits_len, hpl]
      refine wpN_lp (L.length) [false, false, false, false, false, false, false, false, false, false, false, false, false, false, false, true, true, false, false, false, false, false, false, false, false, false, false, false, false, false, false, false, false, false, false, false, false, false, false, false, false, false, false, false, false, false, false, false, false, false, false, false, false, false, false, false, false, false, false, false, true, true, true, true, true, true, true, true, true, true, true, true, false, false, false, false, false, false, false, false, false, false, false, false] (fun j => [(59, .d (.int j))]) (fun j => [(7, iv (fillX t.labels L xs (X i) j))]) (fun _ => by (simp only [go_sem, seval, reduceCtorEq, dropF_ch, dropF_cons, dropF_nil, cut, cond_true, cond_false]); first | done | rfl) (fun _ => by (simp only [go_sem, seval, reduceCtorEq, cut]); first | done | rfl) (Nat.le_of_ble_eq_true rfl) (by first | (simp only [go_sem, seval, reduceCtorEq, dropF_ch, dropF_cons, dropF_nil, cut, cond_true, cond_false, Int.natCast_zero, Int.natCast_add, Int.natCast_one, fillX_zero (hXl i)]; done) | rfl | (simp only [go_sem, seval, reduceCtorEq, dropF_ch, dropF_cons, dropF_nil, cut, cond_true, cond_false, Int.natCast_zero, Int.natCast_add, Int.natCast_one, fillX_zero (hXl i)]; rfl)) (by first | (simp only [go_sem, seval, reduceCtorEq, dropF_ch, dropF_cons, dropF_nil, cut, cond_true, cond_false, Int.natCast_zero, Int.natCast_add, Int.natCast_one, fillX_zero (hXl i)]; done) | rfl | (simp only [go_sem, seval, reduceCtorEq, dropF_ch, dropF_cons, dropF_nil, cut, cond_true, cond_false, Int.natCast_zero, Int.natCast_add, Int.natCast_one, fillX_zero (hXl i)]; rfl)) fun j hj => ?_
      unfold L0_spec_l06Permute
      by_cases hltj : j < L.length
      · have c3 : (j : Int) < L.length := by omega
        have hm := h.sub L[j] (List.getElem_mem hltj)
        obtain ⟨p, hp, e1, e2, _⟩ := place_mem hm
        have gx : xs[j]? = some (xs.getD j 0) := by rw [getD_of (by omega)]; exact List.getElem?_eq_getElem (by omega)
        have gp : (L.map (place t.labels))[j]? = some (p : Int) := by simp [hltj, e1]
        have c4 : (p : Int) < L.length := by omega
        have hfl := fillX_len t.labels L xs (X i) j
        have hfs := fillX_step (xs := xs) (old := X i) (axOk_nodup h.ax) h.nodup hltj hm
        rw [e1, Int.toNat_natCast] at hfs
        have hput : (fillX t.labels L xs (X i) j).take p ++ [xs.getD j 0] ++ (fillX t.labels L xs (X i) j).drop (p + 1) = fillX t.labels L xs (X i) (j + 1) := by rw [put_set (by omega), hfs]
        have gL : L[j]? = some L[j] := List.getElem?_eq_getElem hltj
        simp (disch := omega) only [go_sem, seval, reduceCtorEq, c3, c4, gx, gp, gL, e1]
        refine ⟨by omega, ?_⟩
        (refine Next.drop [false, false, false, false, false, false, false, false, false, false, false, false, false, false, false, true, true, false, false, false, false, false, false, false, false, false, false, false, false, false, false, false, false, false, false, false, false, false, false, false, false, false, false, false, false, false, false, false, false, false, false, false, false, false, false, false, false, false, false, false, true, true, true, true, true, true, true, true, true, true, true, true, false, false, false, false, false, false, false, false, false, false, false, false] (by omega) (Nat.le_of_ble_eq_true rfl) ?_ ?_ <;> first | (simp only [go_sem, seval, reduceCtorEq, dropF_ch, dropF_cons, dropF_nil, cut, cond_true, cond_false, Int.natCast_zero, Int.natCast_add, Int.natCast_one, hput]; done) | rfl | (simp only [go_sem, seval, reduceCtorEq, dropF_ch, dropF_cons, dropF_nil, cut, cond_true, cond_false, Int.natCast_zero, Int.natCast_add, Int.natCast_one, hput]; rfl) | skip)
      · have c3 : ¬ (j : Int) < L.length := by omega
        have hff : fillX t.labels L xs (X i) j = t.labels.map (atL L xs) := fillX_full h.sup (by omega)
        have hid := h.idx i
        have ho := h.off i
        rw [hxs] at hid ho
        have hcut := h.cut i
        have hcl := cut_len hcut
        have htt : List.take wd (List.take wd (List.drop (permOff t L i * wd) t.data)) = List.take wd (List.drop (permOff t L i * wd) t.data) := List.take_of_length_le (by omega)
        have hgl : (gath t.data wd (permOff t L) i).length = i * wd := gath_len fun q _ => h.cut q
        have hml : (t.labels.map (atL L xs)).length = L.length := by simp [hll]
        have hmt : List.take t.labels.length (t.labels.map (atL L xs)) = t.labels.map (atL L xs) := List.take_of_length_le (by omega)
        have hxw : ∀ z ∈ t.labels.map (atL L xs), I64 z := fun z hz => by
          obtain ⟨q, hq, rfl⟩ := List.mem_iff_getElem.1 hz
          have h1 := hid.2 q (by simp at hq; omega)
          have h2 := h.ax.dim (t.dims.getD q 0) (by rw [getD_of (by simp at hq; omega)]; exact List.getElem_mem _)
          unfold idxAt at h1
          rw [getD_of hq] at h1
          exact ⟨by omega, by omega⟩
        have hpn := h.pn
        simp (disch := omega) only [go_sem, seval, reduceCtorEq, c3, hff]
        (refine gi_call (l05Offset_d (ds := t.dims) (is := t.labels.map (atL L xs)) hs.d.up ⟨by omega, hxw⟩ hid h.ax.dim (by omega)) ?_ ?_ ?_; (focus (simp only [go_sem, seval, reduceCtorEq, hml, hmt, hll]; done)); (first | rfl | (focus (simp only [go_sem]; done))))
        simp (disch := omega) only [go_sem, seval, reduceCtorEq, ho]
        (refine gi_call (l05Get_d (t := t) (x := permOff t L i) hw (by omega) hcut (by omega) (by omega)) ?_ ?_ ?_; (focus (simp only [go_sem, seval, reduceCtorEq]; done)); (first | rfl | (focus (simp only [go_sem]; done))))
        simp (disch := omega) only [go_sem, seval, reduceCtorEq, hcl, hgl, htt]
        refine ⟨by omega, ?_⟩
        (refine Next.drop [false, false, false, false, false, false, false, false, false, false, false, false, false, false, false, true, true, false, false, false, false, false, false, false, false, false, false, false, false, false, false, false, false, false, false, false, false, false, false, false, false, false, false, false, false, false, false, false, false, true, true, true, true, true, true, true, true, true, true, true, true, true, true, true, true, true, true, true, true, true, true, true, true, true, true, true, true, true, true, true, true, true, true, false] (by omega) (Nat.le_of_ble_eq_true rfl) ?_ ?_ <;> first | (simp only [go_sem, seval, reduceCtorEq, dropF_ch, dropF_cons, dropF_nil, cut, cond_true, cond_false, Int.natCast_zero, Int.natCast_add, Int.natCast_one, gath, Nat.add_mul, Nat.one_mul, hXs, hxs]; done) | rfl | (simp only [go_sem, seval, reduceCtorEq, dropF_ch, dropF_cons, dropF_nil, cut, cond_true, cond_false, Int.natCast_zero, Int.natCast_add, Int.natCast_one, gath, Nat.add_mul, Nat.one_mul, hXs, hxs]; rfl) | skip)
    · have hiN : i = permN t L := by omega
      have c2 : ¬ (permN t L : Int) < permN t L := by omega
      have hgl : (gath t.data wd (permOff t L) (permN t L)).length = permN t L * wd := gath_len fun q _ => h.cut q
      rw [hiN]
      simp (disch := omega) only [go_sem, seval, reduceCtorEq, hmn, c2]
      refine FnEnd.wk Wk.nogA ?_
      (refine FnEnd.mk (Nat.le_of_ble_eq_true rfl) rfl (of_decide_eq_true rfl) ?_ ?_ <;> try simp only [go_sem, seval, reduceCtorEq])
      all_goals simp only [permR, hgl, hpl]
end Go.Proofs.Ytmggkcifakbfeaa

/-
  Contracts: PermuteTensor. No condition.
-/
namespace Go.Proofs.Ytmggkcifakbfeaa
open Go.RowKit Go.Lift Plain
set_option linter.unusedSimpArgs false
set_option linter.unusedVariables false
set_option maxRecDepth 100000

theorem mkPerm {r : Rg} {t : Ten} {L : List Int} (h : tensorOk r t.labels t.dims t.data = true) (h2 : sameB t.labels L = true) : ∃ wd n : Nat, width r = wd ∧ prodI t.dims = n ∧ PermOk t L wd n := by
  obtain ⟨wd, n, e1, e2, e3, e4, e5, e6, e7, e8, e9, e10⟩ := ten_facts h
  exact ⟨wd, n, e1, e2, e10, e2, ⟨e5, e6⟩, ⟨e3, e4⟩, e7, h2⟩
end Go.Proofs.Ytmggkcifakbfeaa
