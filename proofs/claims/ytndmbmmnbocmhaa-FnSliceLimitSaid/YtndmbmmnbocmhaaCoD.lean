/-
 Contracts: strides, sums of products, the next index, the index at an offset. No condition.
-/
import Derived.Test.YtndmbmmnbocmhaaCoB
import Derived.Test.YtndmbmmnbocmhaaPlA
set_option linter.unusedSimpArgs false
set_option linter.unusedVariables false
namespace Go.Proofs.Ytndmbmmnbocmhaa
open Go.RowKit Go.Lift Plain
set_option maxRecDepth 100000
theorem zeros_one (z : List AV) : Go.Lift.zeros 1 z = z := by simp [Go.Lift.zeros]
theorem zeros_zero (z : List AV) : Go.Lift.zeros 0 z = [] := by simp [Go.Lift.zeros]
attribute [go_sem high] zeros_zero zeros_one
theorem dotI_take {a b : List Int} {k : Nat} (ha : k < a.length) (hb : k < b.length) : dotI (a.take (k + 1)) (b.take (k + 1)) = dotI (a.take k) (b.take k) + a.getD k 0 * b.getD k 0 := by
 rw [take_ss ha, take_ss hb, dotI_snoc _ _ _ _ (by simp; omega), getD_of ha, getD_of hb]
theorem dotI_bd {a b : List Int} (hl : a.length ≤ b.length) (h : ∀ k, k < a.length → 0 ≤ a.getD k 0 * b.getD k 0 ∧ a.getD k 0 * b.getD k 0 ≤ 16777216) :
  ∀ k, k ≤ a.length → 0 ≤ dotI (a.take k) (b.take k) ∧ dotI (a.take k) (b.take k) ≤ 16777216 * k
 | 0, _ => by simp [dotI]
 | k + 1, hk => by
  have := dotI_bd hl h k (by omega)
  have := h k (by omega)
  rw [dotI_take (by omega) (by omega)]
  push_cast
  omega
theorem dotOf_d {a b : List Int} (hl : a.length = b.length) (hn : a.length ≤ 1048576) (h : ∀ k, k < a.length → 0 ≤ a.getD k 0 * b.getD k 0 ∧ a.getD k 0 * b.getD k 0 ≤ 16777216) :
  Does Try.prog 99 [.d (ints a), .d (ints b)] [] (.d (.int (dotI a b))) [] := by
 have hbd := dotI_bd (Nat.le_of_eq hl) h
 (refine spec_of (by kernel_rfl) Try.func99 k_impl_dotOf (fnOk (nb rfl) ?_); unfold C_impl_dotOf)
 (simp only [Nat.reduceSub, List.length_cons, List.length_nil, Nat.reduceAdd, ch_init1, ch_init2, ch_init3, ch_init4, ch_init5, ch_init6, ch_init7, ch_init8]; try simp only [ch_rep]); (simp only [go_sem, seval, reduceCtorEq, List.replicate])
 refine wpN_lp (a.length) (mkB 25 16776256) (fun k => [(5, .d (.int (dotI (a.take k) (b.take k)))), (9, .d (.int k))]) (fun k => []) (h1 := by first | (simp only [go_sem, seval, reduceCtorEq, nz, na, n1, List.take_zero, dotI]; first | done | rfl) | rfl) (h2 := by first | (simp only [go_sem, seval, reduceCtorEq, nz, na, n1, List.take_zero, dotI]; first | done | rfl) | rfl) (hr := fun k hk => ?_)
 unfold L0_impl_dotOf
 have hb0 := hbd k hk
 by_cases hlt : k < a.length
 ·have h1 : (k : Int) < a.length := by omega
  have h2 : (k : Int) < b.length := by omega
  have ha : a[k]? = some (a.getD k 0) := by rw [getD_of hlt]; exact List.getElem?_eq_getElem hlt
  have hb : b[k]? = some (b.getD k 0) := by rw [getD_of (by omega)]; exact List.getElem?_eq_getElem (by omega)
  have hk1 := h k hlt
  have hs := dotI_take hlt (show k < b.length by omega)
  simp (disch := omega) only [go_sem, seval, reduceCtorEq, h1, h2, ha, hb]
  (refine Next.drop (mkB 25 16776256) (by omega) (h1 := ?_) (h2 := ?_) <;> first | (simp only [go_sem, seval, reduceCtorEq, nz, na, n1, hs]; first | done | rfl) | rfl | skip)
 ·have h1 : ¬ (k : Int) < a.length := by omega
  have e1 : a.take k = a := List.take_of_length_le (by omega)
  have e2 : b.take k = b := List.take_of_length_le (by omega)
  simp (disch := omega) only [go_sem, seval, reduceCtorEq, h1, e1, e2]
  (refine FnEnd.mk (nb rfl) rfl (of_decide_eq_true rfl) ?_ ?_ <;> try simp only [go_sem, seval, reduceCtorEq])
theorem stridesOf_d {t : Ten} {L : List Int} (ha : axOk t.labels t.dims) (hp : prodI t.dims ≤ 4096) (hL : L.length ≤ 1048576) :
  Does Try.prog 97 [tenA t, .d (ints L)] [] (.own 0 0 L.length) [some ⟨1, true, iv (L.map (strideL t.labels t.dims))⟩] := by
 have l1 := ha.1
 have l2 := ha.len
 have hdm := ha.dim
 generalize hls : t.labels = ls at *
 generalize hds : t.dims = ds at *
 have hstep : ∀ i, 1 ≤ prodI (ds.drop i) ∧ prodI (ds.drop i) ≤ 4096 := fun i => by
  have h1 := prodI_pos (ds.drop i) (fun d hd => (hdm d (List.mem_of_mem_drop hd)).1)
  have h2 := prodI_pos (ds.take i) (fun d hd => (hdm d (List.mem_of_mem_take hd)).1)
  have h3 := prodI_append (ds.take i) (ds.drop i)
  rw [List.take_append_drop] at h3
  have h4 : prodI (ds.drop i) ≤ prodI (ds.take i) * prodI (ds.drop i) := by
   have := Int.mul_le_mul_of_nonneg_right h2 (show 0 ≤ prodI (ds.drop i) by omega)
   omega
  omega
 (refine spec_of (by kernel_rfl) Try.func97 k_impl_stridesOf (fnOk (nb rfl) ?_); unfold C_impl_stridesOf)
 (simp only [Nat.reduceSub, List.length_cons, List.length_nil, Nat.reduceAdd, ch_init1, ch_init2, ch_init3, ch_init4, ch_init5, ch_init6, ch_init7, ch_init8]; try simp only [ch_rep]); (simp only [go_sem, seval, reduceCtorEq, List.replicate])
 simp only [hls, hds]
 refine ⟨by omega, ?_⟩
 simp (disch := omega) only [go_sem, seval, reduceCtorEq, hls, hds]
 have h00 : L.map (strideL (ls.drop (ds.length - 0)) (ds.drop (ds.length - 0))) = List.replicate L.length 0 := by
  have : ls.drop (ds.length - 0) = [] := List.drop_eq_nil_of_le (by omega)
  rw [this]
  refine List.ext_getElem (by simp) fun i h1 h2 => ?_
  simp [strideL]
 have h01 : prodI (ds.drop (ds.length - 0)) = 1 := by
  have : ds.drop (ds.length - 0) = [] := List.drop_eq_nil_of_le (by omega)
  rw [this]; rfl
 refine wpN_lp (ds.length) (mkB 48 140737488225024) (fun k => [(6, .d (.int (prodI (ds.drop (ds.length - k))))), (7, .d (.int (ds.length - 1 - k)))]) (fun k => [(1, iv (L.map (strideL (ls.drop (ds.length - k)) (ds.drop (ds.length - k)))))]) (h1 := by first | (simp only [go_sem, seval, reduceCtorEq, nz, na, n1, h00, h01, Int.sub_zero]; first | done | rfl) | rfl) (h2 := by first | (simp only [go_sem, seval, reduceCtorEq, nz, na, n1, h00, h01, Int.sub_zero]; first | done | rfl) | rfl) (hr := fun k hk => ?_)
 unfold L1_impl_stridesOf
 by_cases hlt : k < ds.length
 ·obtain ⟨i, hi⟩ : ∃ i, ds.length = k + 1 + i := ⟨ds.length - k - 1, by omega⟩
  have e7 : (ds.length : Int) - 1 - k = i := by omega
  have e8 : ds.length - k = i + 1 := by omega
  have c1 : (0 : Int) ≤ i := by omega
  have c1' : (i : Int) ≥ 0 := by omega
  rw [e8]
  simp only [go_sem, seval, reduceCtorEq, e7, c1']
  have hil : i < ls.length := by omega
  have hid : i < ds.length := by omega
  have c2 : (i : Int) < ls.length := by omega
  have c3 : (i : Int) < ds.length := by omega
  have gl : ls[i]? = some ls[i] := List.getElem?_eq_getElem hil
  have gd : ds[i]? = some ds[i] := List.getElem?_eq_getElem hid
  have el : ls.drop i = ls[i] :: ls.drop (i + 1) := List.drop_eq_getElem_cons hil
  have ed : ds.drop i = ds[i] :: ds.drop (i + 1) := List.drop_eq_getElem_cons hid
  have hst : ∀ x, strideL (ls.drop i) (ds.drop i) x = if x = ls[i] then prodI (ds.drop (i + 1)) else strideL (ls.drop (i + 1)) (ds.drop (i + 1)) x := fun x => by rw [el, ed, strideL]
  have hpr : prodI (ds.drop (i + 1)) * ds[i] = prodI (ds.drop i) := by rw [ed, prodI_cons, Int.mul_comm]
  have hsi := hstep i
  have hml : (L.map (strideL (ls.drop i) (ds.drop i))).length = (L.map (strideL (ls.drop (i + 1)) (ds.drop (i + 1)))).length := by simp
  refine wpN_lp (L.length) (mkB 48 1099494851328) (fun j => [(23, .d (.int j))]) (fun j => [(1, iv (mix (L.map (strideL (ls.drop i) (ds.drop i))) (L.map (strideL (ls.drop (i + 1)) (ds.drop (i + 1)))) j))]) (h1 := by first | (simp only [go_sem, seval, reduceCtorEq, nz, na, n1, mix_zero]; first | done | rfl) | rfl) (h2 := by first | (simp only [go_sem, seval, reduceCtorEq, nz, na, n1, mix_zero]; first | done | rfl) | rfl) (hr := fun j hj => ?_)
  unfold L0_impl_stridesOf
  by_cases hltj : j < L.length
  ·have h1 : (j : Int) < L.length := by omega
   have gL : L[j]? = some L[j] := List.getElem?_eq_getElem hltj
   have hmx : (L.map (strideL (ls.drop i) (ds.drop i)))[j]? = some (strideL (ls.drop i) (ds.drop i) L[j]) := by simp [hltj]
   have hmn := mix_next hml hmx
   have hlen : (mix (L.map (strideL (ls.drop i) (ds.drop i))) (L.map (strideL (ls.drop (i + 1)) (ds.drop (i + 1)))) j).length = L.length := by rw [mix_len hml]; simp
   by_cases hx : L[j] = ls[i]
   ·have hxe : (L[j] == ls[i]) = true := by simp [hx]
    have hv := hst L[j]
    rw [if_pos hx] at hv
    simp (disch := omega) only [go_sem, seval, reduceCtorEq, h1, gL, gl, c1, c2, hxe]
    refine ⟨by rw [hlen]; omega, ?_⟩
    rw [hv] at hmn
    (refine Next.drop (mkB 48 1099494851328) (by omega) (h1 := ?_) (h2 := ?_) <;> first | (simp only [go_sem, seval, reduceCtorEq, nz, na, n1, hmn]; first | done | rfl) | rfl | skip)
   ·have hxe : (L[j] == ls[i]) = false := by simp [hx]
    have hv := hst L[j]
    rw [if_neg hx] at hv
    have e2 : mix (L.map (strideL (ls.drop i) (ds.drop i))) (L.map (strideL (ls.drop (i + 1)) (ds.drop (i + 1)))) (j + 1) = mix (L.map (strideL (ls.drop i) (ds.drop i))) (L.map (strideL (ls.drop (i + 1)) (ds.drop (i + 1)))) j := by
     rw [← hmn, put_set (by rw [hlen]; omega)]
     refine List.ext_getElem? fun q => ?_
     rw [List.getElem?_set]
     split
     ·rename_i hq
      subst hq
      rw [if_pos (by rw [hlen]; omega), mix_get hml, if_neg (Nat.lt_irrefl _), hv]
      simp [hltj]
     ·rfl
    simp (disch := omega) only [go_sem, seval, reduceCtorEq, h1, gL, gl, c1, c2, hxe]
    (refine Next.drop (mkB 48 1099494851328) (by omega) (h1 := ?_) (h2 := ?_) <;> first | (simp only [go_sem, seval, reduceCtorEq, nz, na, n1, e2]; first | done | rfl) | rfl | skip)
  ·have h1 : ¬ (j : Int) < L.length := by omega
   have hf : mix (L.map (strideL (ls.drop i) (ds.drop i))) (L.map (strideL (ls.drop (i + 1)) (ds.drop (i + 1)))) j = L.map (strideL (ls.drop i) (ds.drop i)) := mix_full (by simp; omega) (by simp; omega)
   have e9 : ds.length - (k + 1) = i := by omega
   have e10 : (ds.length : Int) - 1 - (↑k + 1) = i - 1 := by omega
   simp (disch := omega) only [go_sem, seval, reduceCtorEq, h1, c1, c3, gd, hf, hpr]
   (refine Next.drop (mkB 48 140737488225024) (by omega) (h1 := ?_) (h2 := ?_) <;> first | (simp only [go_sem, seval, reduceCtorEq, nz, na, n1, e9, e10]; first | done | rfl) | rfl | skip)
 ·have hk' : k = ds.length := by omega
  have c1 : ¬ (ds.length : Int) - 1 - k ≥ 0 := by omega
  have e0 : ds.length - k = 0 := by omega
  simp (disch := omega) only [go_sem, seval, reduceCtorEq, c1, e0]
  (refine FnEnd.mk (nb rfl) rfl (of_decide_eq_true rfl) ?_ ?_ <;> try simp only [go_sem, seval, reduceCtorEq])
theorem nextIndex_d {ds : List Int} {n : Int} (hd : ∀ d ∈ ds, 1 ≤ d ∧ d ≤ 1000) (hl : ds.length ≤ 1048576) (h0 : 0 ≤ n) :
  Does Try.prog 100 [.d (ints ds), .own 0 0 ds.length] [some ⟨1, false, iv (digits ds n)⟩] (.d (.bool (decide ((n + 1) % prodI ds ≠ 0)))) [some ⟨1, false, iv (digits ds (n + 1))⟩] := by
 have hd1 : ∀ d ∈ ds, 1 ≤ d := fun d h => (hd d h).1
 have hdl := digits_len ds n
 have hdl1 := digits_len ds (n + 1)
 (refine spec_of (by kernel_rfl) Try.func100 k_impl_nextIndex (fnOk (nb rfl) ?_); unfold C_impl_nextIndex)
 (simp only [Nat.reduceSub, List.length_cons, List.length_nil, Nat.reduceAdd, ch_init1, ch_init2, ch_init3, ch_init4, ch_init5, ch_init6, ch_init7, ch_init8]; try simp only [ch_rep]); (simp only [go_sem, seval, reduceCtorEq, List.replicate])
 simp (disch := omega) only [go_sem, seval, reduceCtorEq]
 have hz : (digits ds n).take (ds.length - 0) ++ (digits ds (n + 1)).drop (ds.length - 0) = digits ds n := by
  rw [Nat.sub_zero, List.take_of_length_le (by omega), List.drop_eq_nil_of_le (by omega), List.append_nil]
 refine wpN_lpI (ds.length) (mkB 31 2147483152) (fun k => (n + 1) % prodI (ds.drop (ds.length - k)) = 0) (fun k => [(5, .d (.int (ds.length - 1 - k)))]) (fun k => [(0, iv ((digits ds n).take (ds.length - k) ++ (digits ds (n + 1)).drop (ds.length - k)))]) (hi := by simp [prodI, Int.emod_one]) (h1 := by first | (simp only [go_sem, seval, reduceCtorEq, nz, na, n1, hz, Int.sub_zero]; first | done | rfl) | rfl) (h2 := by first | (simp only [go_sem, seval, reduceCtorEq, nz, na, n1, hz, Int.sub_zero]; first | done | rfl) | rfl) (hr := fun k hk hi => ?_)
 unfold L0_impl_nextIndex
 by_cases hlt : k < ds.length
 ·obtain ⟨i, hik⟩ : ∃ i, ds.length = k + 1 + i := ⟨ds.length - k - 1, by omega⟩
  have e7 : (ds.length : Int) - 1 - k = i := by omega
  have e8 : ds.length - k = i + 1 := by omega
  have c1 : (i : Int) ≥ 0 := by omega
  have hid : i < ds.length := by omega
  have c3 : (i : Int) < ds.length := by omega
  rw [e8] at hi ⊢
  have hst := digits_step hd1 hid hi
  have hkeep := digits_keep ds n i hd1
  have gd : ds[i]? = some (ds.getD i 0) := by rw [getD_of hid]; exact List.getElem?_eq_getElem hid
  have hdi := hd ds[i] (List.getElem_mem hid)
  rw [← getD_of hid] at hdi
  have hbd := digits_bd ds n hd1 i hid
  have hCl : ((digits ds n).take (i + 1) ++ (digits ds (n + 1)).drop (i + 1)).length = ds.length := by simp; omega
  have hCi : ((digits ds n).take (i + 1) ++ (digits ds (n + 1)).drop (i + 1))[i]? = some ((digits ds n).getD i 0) := by
   rw [List.getElem?_append_left (by simp; omega), List.getElem?_take, if_pos (by omega), getD_of (by omega)]; exact List.getElem?_eq_getElem (by omega)
  have hCs : ∀ v, ((digits ds n).take (i + 1) ++ (digits ds (n + 1)).drop (i + 1)).set i v = (digits ds n).take i ++ v :: (digits ds (n + 1)).drop (i + 1) := fun v => by
   rw [← put_set (by omega)]
   have h1 : ((digits ds n).take (i + 1) ++ (digits ds (n + 1)).drop (i + 1)).take i = (digits ds n).take i := by
    rw [List.take_append_of_le_length (by simp; omega), List.take_take, Nat.min_eq_left (by omega)]
   have h2 : ((digits ds n).take (i + 1) ++ (digits ds (n + 1)).drop (i + 1)).drop (i + 1) = (digits ds (n + 1)).drop (i + 1) := by
    rw [List.drop_append_of_le_length (by simp; omega), List.drop_eq_nil_of_le (by simp; omega), List.nil_append]
   rw [h1, h2, List.append_assoc]; rfl
  generalize (digits ds n).take (i + 1) ++ (digits ds (n + 1)).drop (i + 1) = C at *
  have hput : ∀ v : Int, C.take i ++ [v] ++ C.drop (i + 1) = C.set i v := fun v => put_set (by omega)
  have hput2 : ∀ v w : Int, (C.set i v).take i ++ [w] ++ (C.set i v).drop (i + 1) = C.set i w := fun v w => by rw [put_set (by simp; omega), List.set_set]
  have hget : ∀ v : Int, (C.set i v)[i]? = some v := fun v => by rw [List.getElem?_set, if_pos rfl, if_pos (by omega)]
  have hcl : i + 1 ≤ C.length := by omega
  have hsp : (digits ds (n + 1)).drop i = (digits ds (n + 1)).getD i 0 :: (digits ds (n + 1)).drop (i + 1) := by rw [getD_of (by omega)]; exact List.drop_eq_getElem_cons (by omega)
  simp (disch := omega) only [go_sem, seval, reduceCtorEq, e7, c1, c3, gd, hCi, hput, hget, hput2, hcl, List.length_set]
  by_cases h3 : (digits ds n).getD i 0 + 1 < ds.getD i 0
  ·obtain ⟨h4, h5⟩ := hst.1 h3
   have hne : (n + 1) % prodI ds ≠ 0 := by
    intro e
    refine h4 ?_
    have hdvd : prodI (ds.drop i) ∣ prodI ds := by
     have := prodI_append (ds.take i) (ds.drop i)
     rw [List.take_append_drop] at this
     rw [this]
     exact Int.dvd_mul_left _ _
    exact Int.emod_eq_zero_of_dvd (Int.dvd_trans hdvd (Int.dvd_of_emod_eq_zero e))
   have hfin : C.set i ((digits ds n).getD i 0 + 1) = digits ds (n + 1) := by
    rw [hCs, ← hkeep h4 (by omega), ← h5, ← hsp, List.take_append_drop]
   simp (disch := omega) only [go_sem, seval, reduceCtorEq, h3, hfin]
   (refine FnEnd.mk (nb rfl) rfl (of_decide_eq_true rfl) ?_ ?_ <;> try simp only [go_sem, seval, reduceCtorEq])
   rw [decide_eq_true hne]
  ·obtain ⟨h4, h5⟩ := hst.2 h3
   have e9 : ds.length - (k + 1) = i := by omega
   have e10 : (ds.length : Int) - 1 - (↑k + 1) = i - 1 := by omega
   rw [h5] at hsp
   simp (disch := omega) only [go_sem, seval, reduceCtorEq, h3]
   have hI : (n + 1) % prodI (ds.drop (ds.length - (k + 1))) = 0 := by rw [e9]; exact h4
   refine ⟨c3, by simp; omega, ?_⟩
   have hf0 : ∀ v : Int, (C.set i v).take i ++ [0] ++ (C.set i v).drop (i + 1) = (digits ds n).take i ++ (digits ds (n + 1)).drop i := fun v => by rw [hput2, hCs, ← hsp]
   (refine NextI.drop (mkB 31 2147483152) (by omega) (hI) (h1 := ?_) (h2 := ?_) <;> first | (simp only [go_sem, seval, reduceCtorEq, nz, na, n1, e9, e10, hf0]; first | done | rfl) | rfl | skip)
 ·have hk' : ds.length - k = 0 := by omega
  have c1 : ¬ (ds.length : Int) - 1 - k ≥ 0 := by omega
  rw [hk'] at hi ⊢
  simp (disch := omega) only [go_sem, seval, reduceCtorEq, c1]
  (refine FnEnd.mk (nb rfl) rfl (of_decide_eq_true rfl) ?_ ?_ <;> try simp only [go_sem, seval, reduceCtorEq])
  have : (n + 1) % prodI ds = 0 := hi
  rw [this]; rfl
theorem l05Index_d {ds : List Int} {n : Int} (hd : ∀ d ∈ ds, 1 ≤ d ∧ d ≤ 1000) (hl : ds.length ≤ 1048576) (h0 : 0 ≤ n ∧ n ≤ 1152921504606846976) :
  Does Try.prog 107 [.d (ints ds), .d (.int n)] [] (.own 0 0 ds.length) [some ⟨1, true, iv (digits ds n)⟩] := by
 have hd1 : ∀ d ∈ ds, 1 ≤ d := fun d h => (hd d h).1
 have hdl := digits_len ds n
 have hpp : ∀ i, 1 ≤ prodI (ds.drop i) := fun i => prodI_pos _ (fun d h => hd1 d (List.mem_of_mem_drop h))
 (refine spec_of (by kernel_rfl) Try.func107 k_spec_l05Index (fnOk (nb rfl) ?_); unfold C_spec_l05Index)
 (simp only [Nat.reduceSub, List.length_cons, List.length_nil, Nat.reduceAdd, ch_init1, ch_init2, ch_init3, ch_init4, ch_init5, ch_init6, ch_init7, ch_init8]; try simp only [ch_rep]); (simp only [go_sem, seval, reduceCtorEq, List.replicate])
 refine ⟨by omega, ?_⟩
 simp (disch := omega) only [go_sem, seval, reduceCtorEq]
 have hz : (List.replicate ds.length (0 : Int)).take (ds.length - 0) ++ (digits ds n).drop (ds.length - 0) = List.replicate ds.length 0 := by
  rw [Nat.sub_zero, List.take_of_length_le (by simp), List.drop_eq_nil_of_le (by omega), List.append_nil]
 have hz2 : n / prodI (ds.drop (ds.length - 0)) = n := by simp [prodI]
 refine wpN_lp (ds.length) (mkB 33 4294959104) (fun k => [(1, .d (.int (n / prodI (ds.drop (ds.length - k))))), (6, .d (.int (ds.length - 1 - k)))]) (fun k => [(0, iv ((List.replicate ds.length (0 : Int)).take (ds.length - k) ++ (digits ds n).drop (ds.length - k)))]) (h1 := by first | (simp only [go_sem, seval, reduceCtorEq, nz, na, n1, hz, hz2, Int.sub_zero]; first | done | rfl) | rfl) (h2 := by first | (simp only [go_sem, seval, reduceCtorEq, nz, na, n1, hz, hz2, Int.sub_zero]; first | done | rfl) | rfl) (hr := fun k hk => ?_)
 unfold L0_spec_l05Index
 by_cases hlt : k < ds.length
 ·obtain ⟨i, hik⟩ : ∃ i, ds.length = k + 1 + i := ⟨ds.length - k - 1, by omega⟩
  have e7 : (ds.length : Int) - 1 - k = i := by omega
  have e8 : ds.length - k = i + 1 := by omega
  have c1 : (i : Int) ≥ 0 := by omega
  have hid : i < ds.length := by omega
  have c3 : (i : Int) < ds.length := by omega
  rw [e8]
  have gd : ds[i]? = some ds[i] := List.getElem?_eq_getElem hid
  have hdi := hd ds[i] (List.getElem_mem hid)
  have hne : ds[i] ≠ 0 := by omega
  have hP := hpp (i + 1)
  have hq : 0 ≤ n / prodI (ds.drop (i + 1)) := Int.ediv_nonneg h0.1 (by omega)
  have hqb : n / prodI (ds.drop (i + 1)) ≤ n := Int.ediv_le_self _ h0.1
  have hdg : (n / prodI (ds.drop (i + 1))).tmod ds[i] = (digits ds n).getD i 0 := by rw [tm hq, digits_get _ _ _ hid, digit, getD_of hid]
  have hdv : (n / prodI (ds.drop (i + 1))).tdiv ds[i] = n / prodI (ds.drop i) := by
   rw [Int.tdiv_eq_ediv_of_nonneg hq, ← quot_step ds n i hid hd1, getD_of hid]
  have hdvb : 0 ≤ n / prodI (ds.drop i) := Int.ediv_nonneg h0.1 (by have := hpp i; omega)
  have hdvc : n / prodI (ds.drop i) ≤ n := Int.ediv_le_self _ h0.1
  have hCl : ((List.replicate ds.length (0 : Int)).take (i + 1) ++ (digits ds n).drop (i + 1)).length = ds.length := by simp; omega
  have hCs : ((List.replicate ds.length (0 : Int)).take (i + 1) ++ (digits ds n).drop (i + 1)).take i ++ [(digits ds n).getD i 0] ++ ((List.replicate ds.length (0 : Int)).take (i + 1) ++ (digits ds n).drop (i + 1)).drop (i + 1) = (List.replicate ds.length (0 : Int)).take i ++ (digits ds n).drop i := by
   have h1 : ((List.replicate ds.length (0 : Int)).take (i + 1) ++ (digits ds n).drop (i + 1)).take i = (List.replicate ds.length (0 : Int)).take i := by
    rw [List.take_append_of_le_length (by simp; omega), List.take_take, Nat.min_eq_left (by omega)]
   have h2 : ((List.replicate ds.length (0 : Int)).take (i + 1) ++ (digits ds n).drop (i + 1)).drop (i + 1) = (digits ds n).drop (i + 1) := by
    rw [List.drop_append_of_le_length (by simp; omega), List.drop_eq_nil_of_le (by simp; omega), List.nil_append]
   rw [h1, h2, List.append_assoc, getD_of (by omega), List.singleton_append, ← List.drop_eq_getElem_cons]
  generalize (List.replicate ds.length (0 : Int)).take (i + 1) ++ (digits ds n).drop (i + 1) = C at *
  have hcl : i + 1 ≤ C.length := by omega
  have e9 : ds.length - (k + 1) = i := by omega
  have e10 : (ds.length : Int) - 1 - (↑k + 1) = i - 1 := by omega
  simp (disch := omega) only [go_sem, seval, reduceCtorEq, e7, c1, c3, gd, hne, hdg, hdv, hcl, ne_eq, not_false_eq_true]
  (refine Next.drop (mkB 33 4294959104) (by omega) (h1 := ?_) (h2 := ?_) <;> first | (simp only [go_sem, seval, reduceCtorEq, nz, na, n1, e9, e10, hCs]; first | done | rfl) | rfl | skip)
 ·have hk' : ds.length - k = 0 := by omega
  have c1 : ¬ (ds.length : Int) - 1 - k ≥ 0 := by omega
  rw [hk']
  simp (disch := omega) only [go_sem, seval, reduceCtorEq, c1]
  (refine FnEnd.mk (nb rfl) rfl (of_decide_eq_true rfl) ?_ ?_ <;> try simp only [go_sem, seval, reduceCtorEq])
set_option maxRecDepth 100000
def permD (t : Ten) (L : List Int) : List Int := L.map (dimAt t)
def permOff (t : Ten) (L : List Int) (i : Nat) : Nat := (dotI (L.map (strideL t.labels t.dims)) (digits (permD t L) i)).toNat
def permN (t : Ten) (L : List Int) : Nat := (prodI (permD t L)).toNat
def permR (wd : Nat) (t : Ten) (L : List Int) : Ten := ⟨L, permD t L, gath t.data wd (permOff t L) (permN t L)⟩
structure PermOk (t : Ten) (L : List Int) (wd n : Nat) : Prop where
 ax : axOk t.labels t.dims
 pn : prodI t.dims = n
 n1 : 1 ≤ n ∧ n ≤ 4096
 w1 : 1 ≤ wd ∧ wd ≤ 6
 dl : t.data.length = n * wd
 same : sameB t.labels L = true
namespace PermOk
variable {t : Ten} {L : List Int} {wd n : Nat}
theorem len (h : PermOk t L wd n) : L.length = t.labels.length := (of_decide_eq_true h.same).1
theorem sub (h : PermOk t L wd n) : ∀ x ∈ L, x ∈ t.labels := fun x hx => by
 obtain ⟨k, hk, rfl⟩ := List.mem_iff_getElem.1 hx
 exact ((of_decide_eq_true h.same).2 k hk).1
theorem nodup (h : PermOk t L wd n) : L.Nodup := nodup_of_fresh fun k hk => ((of_decide_eq_true h.same).2 k hk).2
theorem sup (h : PermOk t L wd n) : ∀ x ∈ t.labels, x ∈ L := sub_back h.nodup h.sub (Nat.le_of_eq h.len.symm)
theorem dbd (h : PermOk t L wd n) : ∀ d ∈ permD t L, 1 ≤ d ∧ d ≤ 8 := fun d hd => by
 simp only [permD, List.mem_map] at hd
 obtain ⟨x, hx, rfl⟩ := hd
 exact dimAt_bd h.ax (h.sub x hx)
theorem pbd (h : PermOk t L wd n) : 1 ≤ prodI (permD t L) ∧ prodI (permD t L) ≤ n := by
 refine ⟨prodI_pos _ (fun d hd => (h.dbd d hd).1), ?_⟩
 have := prodI_sub_le (f := dimAt t) h.nodup h.sub (fun x hx => (dimAt_bd h.ax hx).1)
 rw [dims_map h.ax, h.pn] at this
 exact this
theorem pN (h : PermOk t L wd n) : prodI (permD t L) = permN t L := by have := h.pbd; unfold permN; omega
theorem idx (h : PermOk t L wd n) (i : Nat) : idxOk t.dims (t.labels.map (atL L (digits (permD t L) i))) := by
 refine ⟨by simp [h.ax.len], fun k hk => ?_⟩
 have hk' : k < t.labels.length := by have := h.ax.len; omega
 have hm := h.sup t.labels[k] (List.getElem_mem hk')
 obtain ⟨q, h1, h2, h3, h4⟩ := atL_mem (xs := digits (permD t L) i) hm (by simp [digits_len, permD])
 have h5 := digits_bd (permD t L) i (fun d hd => (h.dbd d hd).1) q (by simpa [permD] using h1)
 have h6 : (permD t L).getD q 0 = t.dims.getD k 0 := by
  rw [getD_of (by simpa [permD] using h1), getD_of hk]
  have h7 : L[q] = t.labels[k] := by rw [List.getElem?_eq_getElem h1] at h3; simpa using h3
  simp only [permD, List.getElem_map, h7]
  exact dimAt_at h.ax hk' hk
 unfold idxAt
 have h8 : (t.labels.map (atL L (digits (permD t L) i))).getD k 0 = atL L (digits (permD t L) i) t.labels[k] := by rw [getD_of (by simpa using hk')]; simp
 rw [h8, h4, ← h6]
 exact h5
theorem off (h : PermOk t L wd n) (i : Nat) : dotI (L.map (strideL t.labels t.dims)) (digits (permD t L) i) = permOff t L i ∧ permOff t L i < n ∧ offs t.dims (t.labels.map (atL L (digits (permD t L) i))) = permOff t L i := by
 have h1 := off_labels h.ax.len (axOk_nodup h.ax) h.nodup h.sup (xs := digits (permD t L) i) (by simp [digits_len, permD])
 have h2 := offs_bd _ _ _ h.ax (h.idx i)
 have h3 := h.pn
 unfold permOff
 rw [h1]
 omega
theorem cut (h : PermOk t L wd n) (i : Nat) : permOff t L i * wd + wd ≤ t.data.length := by
 rw [h.dl]; exact mul_step (h.off i).2.1
theorem dotb (h : PermOk t L wd n) (i k : Nat) : 0 ≤ (L.map (strideL t.labels t.dims)).getD k 0 * (digits (permD t L) i).getD k 0 ∧ (L.map (strideL t.labels t.dims)).getD k 0 * (digits (permD t L) i).getD k 0 ≤ 16777216 := by
 by_cases hk : k < L.length
 ·have h1 := digits_bd (permD t L) i (fun d hd => (h.dbd d hd).1) k (by simpa [permD] using hk)
  have h2 := h.dbd ((permD t L).getD k 0) (by rw [getD_of (by simpa [permD] using hk)]; exact List.getElem_mem _)
  have h3 := strideL_bd t.labels t.dims L[k] (fun d hd => (h.ax.dim d hd).1)
  have h4 := h.pn
  have h5 := h.n1
  rw [getD_of (show k < (L.map (strideL t.labels t.dims)).length by simpa using hk), List.getElem_map]
  generalize (digits (permD t L) i).getD k 0 = x at *
  generalize strideL t.labels t.dims L[k] = s at *
  refine ⟨Int.mul_nonneg h3.1 h1.1, ?_⟩
  have : s * x ≤ s * 8 := Int.mul_le_mul_of_nonneg_left (by omega) h3.1
  omega
 ·have : (L.map (strideL t.labels t.dims)).getD k 0 = 0 := by simp [List.getD_eq_getElem?_getD, List.getElem?_eq_none (Nat.le_of_not_lt hk)]
  rw [this]; simp
end PermOk
set_option maxRecDepth 100000
set_option maxRecDepth 100000
set_option maxRecDepth 100000
end Go.Proofs.Ytndmbmmnbocmhaa
