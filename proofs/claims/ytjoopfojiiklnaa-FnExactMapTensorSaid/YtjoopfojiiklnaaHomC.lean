/-
  Contracts: images of tensors by a homomorphism. No condition.
-/
import Derived.Test.YtjoopfojiiklnaaHomB
namespace Go.Proofs.Ytjoopfojiiklnaa
open Go.RowKit Go.Lift Plain
set_option linter.unusedSimpArgs false
set_option linter.unusedVariables false
set_option maxRecDepth 100000

section
variable {kf pf nf kt pt nt k a : Int} {x : List Int} {wf : Nat}
theorem hom_horn (hf : ringOk ⟨8, pf, nf⟩ = true) (fx : fits ⟨8, pf, nf⟩ x) : (2 ≤ pf ∧ pf ≤ 1000003) ∧ ∀ y ∈ x, 0 ≤ y ∧ y ≤ 1000003 := by
  have hp := ring_prime hf (Or.inr (Or.inr rfl))
  refine ⟨hp, fun y hy => ?_⟩
  have h := fits_mem fx y hy
  have e := topP (r := ⟨8, pf, nf⟩) (Or.inr (Or.inr rfl))
  simp only at e
  omega
theorem ring7_n {p n : Int} (h0 : ringOk ⟨7, p, n⟩ = true) : 1 ≤ n ∧ n ≤ 6 := by
  rcases ringOk_cases h0 with h | h | h | h | h | h | h | h <;> simp only at h <;> omega
theorem width7 {p n : Int} : width ⟨7, p, n⟩ = n := rfl
theorem hom_2 (hx : 0 ≤ x.getD 0 0) (hc : kf = 3 ∨ kf = 4) : (decide (x.getD 0 0 > 0) == (kf == 3)) = (if kf = 3 then decide (x.getD 0 0 > 0) else x.getD 0 0 == 0) := by
  rcases hc with rfl | rfl
  · simp
  · rw [if_neg (by omega)]
    have c : ((4 : Int) == 3) = false := rfl
    generalize x.getD 0 0 = y at *
    rw [c, Bool.eq_iff_iff]
    simp
    omega
theorem rawHom_d (hO : homOk kf pf nf kt pt nt k a = true) (hw : width ⟨kf, pf, nf⟩ = wf) (lx : x.length = wf) (fx : fits ⟨kf, pf, nf⟩ x) :
    Does Try.prog 96 [ringA kf pf nf, ringA kt pt nt, homA k a, .d (ints x)] [] (.own 0 0 (homE kf pf kt pt nt k a x).length) [some ⟨1, true, iv (homE kf pf kt pt nt k a x)⟩] := by
  obtain ⟨hf, ht, hc⟩ := homOk_is hO
  have hwb := width_bd hf
  have g0 : x[0]? = some (x.getD 0 0) := by rw [getD_of (show 0 < x.length by omega)]; exact List.getElem?_eq_getElem (by omega)
  have hx0 := fx 0 (by omega)
  have i0 : (0 : Int) < x.length := by omega
  rcases hc with rfl | ⟨rfl, hc⟩ | ⟨rfl, rfl, hc⟩ | ⟨rfl, rfl⟩ | ⟨rfl, rfl⟩ | ⟨rfl, rfl, hc⟩ | ⟨rfl, rfl, hc⟩ | ⟨rfl, rfl, hc⟩
  · exact rawHom1_d (x0 := x.getD 0 0) (by omega)
  · rcases hc with rfl | rfl
    · exact rawHom2a_d i0 g0
    · exact rawHom2b_d i0 g0
  · exact rawHom3_d i0 g0 hc.1
  · exact rawHom4_d i0 g0
  · exact rawHom5_d i0 g0
  · have h := hom_horn hf fx
    have e : width ⟨8, pf, nf⟩ = 4 := rfl
    exact rawHom6_d (x0 := 0) (by omega) h.1 hc h.2
  · rcases hc with rfl | rfl | rfl | ⟨rfl, hc⟩ | rfl
    · exact rawHom7c_d i0 g0 rfl rfl
    · exact rawHom7c_d i0 g0 rfl rfl
    · exact rawHom7c_d i0 g0 rfl rfl
    · have := ring7_n ht
      have := width7 (p := pf) (n := nf)
      exact rawHom7a_d (x0 := 0) (by omega) (by omega)
    · exact rawHom7b_d i0 g0 ht
  · exact rawHom8_d i0 g0 ht hc
theorem l03Map_d (hO : homOk kf pf nf kt pt nt k a = true) (hw : width ⟨kf, pf, nf⟩ = wf) (lx : x.length = wf) (fx : fits ⟨kf, pf, nf⟩ x) :
    Does Try.prog 125 [ringA kf pf nf, ringA kt pt nt, homA k a, .d (ints x)] [] (.own 0 0 (homE kf pf kt pt nt k a x).length) [some ⟨1, true, iv (homE kf pf kt pt nt k a x)⟩] := by
  obtain ⟨hf, ht, hc⟩ := homOk_is hO
  have hwb := width_bd hf
  have g0 : x[0]? = some (x.getD 0 0) := by rw [getD_of (show 0 < x.length by omega)]; exact List.getElem?_eq_getElem (by omega)
  have hx0 := fx 0 (by omega)
  have i0 : (0 : Int) < x.length := by omega
  rcases hc with rfl | ⟨rfl, hc⟩ | ⟨rfl, rfl, hc⟩ | ⟨rfl, rfl⟩ | ⟨rfl, rfl⟩ | ⟨rfl, rfl, hc⟩ | ⟨rfl, rfl, hc⟩ | ⟨rfl, rfl, hc⟩
  · exact l03Map1_d (x0 := x.getD 0 0) (by omega)
  · have h := l03Map2_d (kf := kf) (pf := pf) (nf := nf) (kt := kt) (pt := pt) (nt := nt) (a := a) i0 g0
    rw [hom_2 hx0.1 hc] at h
    exact h
  · exact l03Map3_d i0 g0 hc.1
  · exact l03Map4_d i0 g0
  · exact l03Map5_d i0 g0
  · have h := hom_horn hf fx
    have e : width ⟨8, pf, nf⟩ = 4 := rfl
    exact l03Map6_d (x0 := 0) (by omega) h.1 hc h.2
  · rcases hc with rfl | rfl | rfl | ⟨rfl, hc⟩ | rfl
    · exact l03Map7c_d i0 g0 rfl rfl
    · exact l03Map7c_d i0 g0 rfl rfl
    · exact l03Map7c_d i0 g0 rfl rfl
    · have := ring7_n ht
      have := width7 (p := pf) (n := nf)
      exact l03Map7a_d (x0 := 0) (by omega) (by omega)
    · exact l03Map7b_d i0 g0 ht
  · exact l03Map8_d i0 g0 ht hc
end
/-! ### Tensors -/
def mapTo (kf pf kt pt nt k a : Int) (wd : Nat) (xs : List Int) : Nat → List Int
  | 0 => []
  | n + 1 => mapTo kf pf kt pt nt k a wd xs n ++ homE kf pf kt pt nt k a (cutE xs wd n)
theorem mapTo_len {kf pf kt pt nt k a : Int} {wd : Nat} {xs : List Int} (h : wd ≤ 6) : ∀ n, (mapTo kf pf kt pt nt k a wd xs n).length ≤ n * 6
  | 0 => by simp [mapTo]
  | n + 1 => by
    have := mapTo_len (kf := kf) (pf := pf) (kt := kt) (pt := pt) (nt := nt) (k := k) (a := a) (xs := xs) h n
    have h2 : (cutE xs wd n).length ≤ 6 := by unfold cutE; rw [List.length_take]; omega
    have := homE_len (kf := kf) (pf := pf) (kt := kt) (pt := pt) (nt := nt) (k := k) (a := a) h2
    rw [mapTo, List.length_append]
    omega
theorem iMapTensor_o {kf pf nf kt pt nt k a : Int} {t : Ten} {wd n : Nat} (b1 : I64 kf) (b2 : I64 pf) (b3 : I64 nf) (h : TSz 1048576 t) (hO : homOk kf pf nf kt pt nt k a = true) (hT : tensorOk ⟨kf, pf, nf⟩ t.labels t.dims t.data = true) (hw : width ⟨kf, pf, nf⟩ = wd) (hp : prodI t.dims = n) :
    Does Try.prog 48 [ringA kf pf nf, ringA kt pt nt, homA k a, tenA t] [] (.tup [ownT 0 ⟨t.labels, t.dims, mapTo kf pf kt pt nt k a wd t.data n⟩, .d (.bool true)]) (stoT ⟨t.labels, t.dims, mapTo kf pf kt pt nt k a wd t.data n⟩) := by
  obtain ⟨wd', n', hw', hp', hw1, hw6, hn1, hn2, hlen, hfit, hring, hax⟩ := ten_facts hT
  obtain rfl : wd' = wd := by omega
  obtain rfl : n' = n := by omega
  have hcH := iHomOk_d (kf := kf) (pf := pf) (nf := nf) (kt := kt) (pt := pt) (nt := nt) (k := k) (a := a)
  have hcM : ∀ x : List Int, x.length = wd' → fits ⟨kf, pf, nf⟩ x → _ := fun x lx fx => rawHom_d (x := x) hO hw lx fx
  simp only [homA] at hcH hcM
  (refine spec_of (by kernel_rfl) Try.func48 k_impl_MapTensor (fnOk (Nat.le_of_ble_eq_true rfl) ?_); unfold C_impl_MapTensor)
  simp only [homA]
  (simp only [Nat.reduceSub, List.length_cons, List.length_nil, Nat.reduceAdd, ch_init1, ch_init2, ch_init3, ch_init4, ch_init5, ch_init6, ch_init7, ch_init8]; try simp only [ch_rep]); (simp only [go_sem, seval, reduceCtorEq, List.replicate])
  (refine ti_call (hcH) ?_ ?_ ?_; (focus (simp only [go_sem, seval, reduceCtorEq]; done)); (first | rfl | (focus (simp only [go_sem]; done))))
  simp only [go_sem, seval, reduceCtorEq, hO]
  (refine ti_call (iTensorOk_d (t := t) b1 b2 b3 h.up) ?_ ?_ ?_; (focus (simp only [go_sem, seval, reduceCtorEq]; done)); (first | rfl | (focus (simp only [go_sem]; done))))
  simp only [go_sem, seval, reduceCtorEq, hT]
  (refine gi_call (copyInts_d (xs := t.labels) h.l.up.len) ?_ ?_ ?_; (focus (simp only [go_sem, seval, reduceCtorEq]; done)); (first | rfl | (focus (simp only [go_sem]; done))))
  simp only [go_sem, seval, reduceCtorEq]
  (refine gi_call (copyInts_d (xs := t.dims) h.d.up.len) ?_ ?_ ?_; (focus (simp only [go_sem, seval, reduceCtorEq]; done)); (first | rfl | (focus (simp only [go_sem]; done))))
  simp only [go_sem, seval, reduceCtorEq]
  have hm0 : mapTo kf pf kt pt nt k a wd' t.data 0 = [] := rfl
  have hxl := h.x.len
  (refine wpN_lwk (Wk.nilS 7 2 1 _ _ _ rfl rfl) ?_; simp only [go_sem, seval, reduceCtorEq])
  refine wpN_lp (n') [false, false, false, false, false, false, false, false, false, false, false, false, false, false, false, false, false, false, false, false, false, false, false, false, false, false, false, false, false, false, false, true, true, true, true, true, true, true, true, true, true, true, true, true, true, true, true, true, true, true, false] (fun i => [(11, .d (.int i))]) (fun i => [(7, [.own 5 0 t.labels.length, .own 6 0 t.dims.length, .own 8 0 (mapTo kf pf kt pt nt k a wd' t.data i).length]), (8, iv (mapTo kf pf kt pt nt k a wd' t.data i))]) (fun _ => by (simp only [go_sem, seval, reduceCtorEq, dropF_ch, dropF_cons, dropF_nil, cut, cond_true, cond_false]); first | done | rfl) (fun _ => by (simp only [go_sem, seval, reduceCtorEq, cut]); first | done | rfl) (Nat.le_of_ble_eq_true rfl) (by first | (simp only [go_sem, seval, reduceCtorEq, dropF_ch, dropF_cons, dropF_nil, cut, cond_true, cond_false, Int.natCast_zero, Int.natCast_add, Int.natCast_one, hm0, iv_nil, List.length_nil]; done) | rfl | (simp only [go_sem, seval, reduceCtorEq, dropF_ch, dropF_cons, dropF_nil, cut, cond_true, cond_false, Int.natCast_zero, Int.natCast_add, Int.natCast_one, hm0, iv_nil, List.length_nil]; rfl)) (by first | (simp only [go_sem, seval, reduceCtorEq, dropF_ch, dropF_cons, dropF_nil, cut, cond_true, cond_false, Int.natCast_zero, Int.natCast_add, Int.natCast_one, hm0, iv_nil, List.length_nil]; done) | rfl | (simp only [go_sem, seval, reduceCtorEq, dropF_ch, dropF_cons, dropF_nil, cut, cond_true, cond_false, Int.natCast_zero, Int.natCast_add, Int.natCast_one, hm0, iv_nil, List.length_nil]; rfl)) fun i hi => ?_
  unfold L0_impl_MapTensor
  simp only [go_sem, seval, reduceCtorEq]
  (refine ti_call (productOf_d (ds := t.dims) h.d.up.len (fun d hd => (hax.dim d hd).1) (by omega)) ?_ ?_ ?_; (focus (simp only [go_sem, seval, reduceCtorEq]; done)); (first | rfl | (focus (simp only [go_sem]; done))))
  by_cases hlt : i < n'
  · have d1 : (i : Int) < n' := by omega
    have hmul : i * wd' + wd' ≤ t.data.length := by
      have := Nat.mul_le_mul_right wd' (show i + 1 ≤ n' by omega)
      rw [Nat.add_mul, Nat.one_mul] at this
      rw [hlen]; exact this
    have hml := mapTo_len (kf := kf) (pf := pf) (kt := kt) (pt := pt) (nt := nt) (k := k) (a := a) (xs := t.data) hw6 i
    have hcl := cutE_len (x := t.data) (wd := wd') (n := n') hlen hlt
    have hcf : fits ⟨kf, pf, nf⟩ (cutE t.data wd' i) := fits_cutE hfit wd' i
    have hel := homE_len (kf := kf) (pf := pf) (kt := kt) (pt := pt) (nt := nt) (k := k) (a := a) (x := cutE t.data wd' i) (by omega)
    have hms : mapTo kf pf kt pt nt k a wd' t.data (i + 1) = mapTo kf pf kt pt nt k a wd' t.data i ++ homE kf pf kt pt nt k a (cutE t.data wd' i) := rfl
    have hcc : (t.data.drop (i * wd')).take wd' = cutE t.data wd' i := rfl
    have hco := hcM (cutE t.data wd' i) hcl hcf
    rw [hp'] at *
    simp (disch := omega) only [go_sem, seval, reduceCtorEq, d1]
    (refine gi_call (rawElem_d (x := i) (kk := kf) (pp := pf) (nn := nf) (t := t) hw hw6 hmul (by omega) (by omega)) ?_ ?_ ?_; (focus (simp only [go_sem, seval, reduceCtorEq, hcc, hcl]; done)); (first | rfl | (focus (simp only [go_sem]; done))))
    simp only [go_sem, seval, reduceCtorEq, hcc]
    (refine gi_call (hco) ?_ ?_ ?_; (focus (simp only [go_sem, seval, reduceCtorEq]; done)); (first | rfl | (focus (simp only [go_sem]; done))))
    generalize hG : homE kf pf kt pt nt k a (cutE t.data wd' i) = G at *
    have htz : List.take G.length G = G := List.take_length
    have hle : (G.length ≤ G.length) = True := by simp
    simp (disch := omega) only [go_sem, seval, reduceCtorEq, htz, hle, if_true]
    (repeat (refine And.intro (by omega) ?_))
    (refine Next.drop [false, false, false, false, false, false, false, false, false, false, false, false, false, false, false, false, false, false, false, false, false, false, false, false, false, false, false, false, false, false, false, true, true, true, true, true, true, true, true, true, true, true, true, true, true, true, true, true, true, true, false] (by omega) (Nat.le_of_ble_eq_true rfl) ?_ ?_ <;> first | (simp only [go_sem, seval, reduceCtorEq, dropF_ch, dropF_cons, dropF_nil, cut, cond_true, cond_false, Int.natCast_zero, Int.natCast_add, Int.natCast_one, hms, List.length_append]; done) | rfl | (simp only [go_sem, seval, reduceCtorEq, dropF_ch, dropF_cons, dropF_nil, cut, cond_true, cond_false, Int.natCast_zero, Int.natCast_add, Int.natCast_one, hms, List.length_append]; rfl) | skip)
  · have d1 : ¬ (i : Int) < n' := by omega
    obtain rfl : i = n' := by omega
    rw [hp'] at *
    simp (disch := omega) only [go_sem, seval, reduceCtorEq, d1]
    (refine FnEnd.mk (Nat.le_of_ble_eq_true rfl) rfl (of_decide_eq_true rfl) ?_ ?_ <;> try simp only [go_sem, seval, reduceCtorEq])
theorem l07Map_d {kf pf nf kt pt nt k a : Int} {t : Ten} {wd n : Nat} (h : TSz 1048576 t) (hO : homOk kf pf nf kt pt nt k a = true) (hT : tensorOk ⟨kf, pf, nf⟩ t.labels t.dims t.data = true) (hw : width ⟨kf, pf, nf⟩ = wd) (hp : prodI t.dims = n) :
    Does Try.prog 92 [ringA kf pf nf, ringA kt pt nt, homA k a, tenA t] [] (ownT 0 ⟨t.labels, t.dims, mapTo kf pf kt pt nt k a wd t.data n⟩) (stoT ⟨t.labels, t.dims, mapTo kf pf kt pt nt k a wd t.data n⟩) := by
  obtain ⟨wd', n', hw', hp', hw1, hw6, hn1, hn2, hlen, hfit, hring, hax⟩ := ten_facts hT
  obtain rfl : wd' = wd := by omega
  obtain rfl : n' = n := by omega
  have hmn : min (prodI t.dims) 4097 = (n' : Int) := by omega
  have hcM : ∀ x : List Int, x.length = wd' → fits ⟨kf, pf, nf⟩ x → _ := fun x lx fx => l03Map_d (x := x) hO hw lx fx
  simp only [homA] at hcM
  (refine spec_of (by kernel_rfl) Try.func92 k_spec_l07Map (fnOk (Nat.le_of_ble_eq_true rfl) ?_); unfold C_spec_l07Map)
  simp only [homA]
  (simp only [Nat.reduceSub, List.length_cons, List.length_nil, Nat.reduceAdd, ch_init1, ch_init2, ch_init3, ch_init4, ch_init5, ch_init6, ch_init7, ch_init8]; try simp only [ch_rep]); (simp only [go_sem, seval, reduceCtorEq, List.replicate])
  (refine gi_call (l05Ints_d (xs := t.labels) h.l.up.len) ?_ ?_ ?_; (focus (simp only [go_sem, seval, reduceCtorEq]; done)); (first | rfl | (focus (simp only [go_sem]; done))))
  simp only [go_sem, seval, reduceCtorEq]
  (refine gi_call (l05Ints_d (xs := t.dims) h.d.up.len) ?_ ?_ ?_; (focus (simp only [go_sem, seval, reduceCtorEq]; done)); (first | rfl | (focus (simp only [go_sem]; done))))
  simp only [go_sem, seval, reduceCtorEq]
  have hm0 : mapTo kf pf kt pt nt k a wd' t.data 0 = [] := rfl
  have hxl := h.x.len
  (refine wpN_lwk (Wk.nilS 7 2 1 _ _ _ rfl rfl) ?_; simp only [go_sem, seval, reduceCtorEq])
  refine wpN_lp (n') [false, false, false, false, false, false, false, false, false, false, false, false, false, false, false, false, false, false, true, true, true, true, true, true, true, true, true, true, true, true, true, true, true, true, true, true, true, false] (fun i => [(10, .d (.int i))]) (fun i => [(7, [.own 5 0 t.labels.length, .own 6 0 t.dims.length, .own 8 0 (mapTo kf pf kt pt nt k a wd' t.data i).length]), (8, iv (mapTo kf pf kt pt nt k a wd' t.data i))]) (fun _ => by (simp only [go_sem, seval, reduceCtorEq, dropF_ch, dropF_cons, dropF_nil, cut, cond_true, cond_false]); first | done | rfl) (fun _ => by (simp only [go_sem, seval, reduceCtorEq, cut]); first | done | rfl) (Nat.le_of_ble_eq_true rfl) (by first | (simp only [go_sem, seval, reduceCtorEq, dropF_ch, dropF_cons, dropF_nil, cut, cond_true, cond_false, Int.natCast_zero, Int.natCast_add, Int.natCast_one, hm0, iv_nil, List.length_nil]; done) | rfl | (simp only [go_sem, seval, reduceCtorEq, dropF_ch, dropF_cons, dropF_nil, cut, cond_true, cond_false, Int.natCast_zero, Int.natCast_add, Int.natCast_one, hm0, iv_nil, List.length_nil]; rfl)) (by first | (simp only [go_sem, seval, reduceCtorEq, dropF_ch, dropF_cons, dropF_nil, cut, cond_true, cond_false, Int.natCast_zero, Int.natCast_add, Int.natCast_one, hm0, iv_nil, List.length_nil]; done) | rfl | (simp only [go_sem, seval, reduceCtorEq, dropF_ch, dropF_cons, dropF_nil, cut, cond_true, cond_false, Int.natCast_zero, Int.natCast_add, Int.natCast_one, hm0, iv_nil, List.length_nil]; rfl)) fun i hi => ?_
  unfold L0_spec_l07Map
  simp only [go_sem, seval, reduceCtorEq]
  (refine ti_call (l05Product_d (ds := t.dims) (lim := 4096) h.d.up.len (fun d hd => by have := hax.dim d hd; omega) (by omega)) ?_ ?_ ?_; (focus (simp only [go_sem, seval, reduceCtorEq, hmn]; done)); (first | rfl | (focus (simp only [go_sem]; done))))
  simp only [go_sem, seval, reduceCtorEq, hmn]
  by_cases hlt : i < n'
  · have d1 : (i : Int) < n' := by omega
    have hmul : i * wd' + wd' ≤ t.data.length := by
      have := Nat.mul_le_mul_right wd' (show i + 1 ≤ n' by omega)
      rw [Nat.add_mul, Nat.one_mul] at this
      rw [hlen]; exact this
    have hml := mapTo_len (kf := kf) (pf := pf) (kt := kt) (pt := pt) (nt := nt) (k := k) (a := a) (xs := t.data) hw6 i
    have hcl := cutE_len (x := t.data) (wd := wd') (n := n') hlen hlt
    have hcf : fits ⟨kf, pf, nf⟩ (cutE t.data wd' i) := fits_cutE hfit wd' i
    have hel := homE_len (kf := kf) (pf := pf) (kt := kt) (pt := pt) (nt := nt) (k := k) (a := a) (x := cutE t.data wd' i) (by omega)
    have hms : mapTo kf pf kt pt nt k a wd' t.data (i + 1) = mapTo kf pf kt pt nt k a wd' t.data i ++ homE kf pf kt pt nt k a (cutE t.data wd' i) := rfl
    have hcc : (t.data.drop (i * wd')).take wd' = cutE t.data wd' i := rfl
    have hco := hcM (cutE t.data wd' i) hcl hcf
    simp (disch := omega) only [go_sem, seval, reduceCtorEq, d1]
    (refine gi_call (l05Get_d (x := i) (kk := kf) (pp := pf) (nn := nf) (t := t) hw hw6 hmul (by omega) (by omega)) ?_ ?_ ?_; (focus (simp only [go_sem, seval, reduceCtorEq, hcc, hcl]; done)); (first | rfl | (focus (simp only [go_sem]; done))))
    simp only [go_sem, seval, reduceCtorEq, hcc]
    have htc : List.take wd' (cutE t.data wd' i) = cutE t.data wd' i := List.take_of_length_le (by omega)
    (refine gi_call (hco) ?_ ?_ ?_; (focus (simp only [go_sem, seval, reduceCtorEq, hcl, htc]; done)); (first | rfl | (focus (simp only [go_sem]; done))))
    generalize hG : homE kf pf kt pt nt k a (cutE t.data wd' i) = G at *
    have htz : List.take G.length G = G := List.take_length
    have hle : (G.length ≤ G.length) = True := by simp
    simp (disch := omega) only [go_sem, seval, reduceCtorEq, htz, hle, if_true]
    (repeat (refine And.intro (by omega) ?_))
    (refine Next.drop [false, false, false, false, false, false, false, false, false, false, false, false, false, false, false, false, false, false, true, true, true, true, true, true, true, true, true, true, true, true, true, true, true, true, true, true, true, false] (by omega) (Nat.le_of_ble_eq_true rfl) ?_ ?_ <;> first | (simp only [go_sem, seval, reduceCtorEq, dropF_ch, dropF_cons, dropF_nil, cut, cond_true, cond_false, Int.natCast_zero, Int.natCast_add, Int.natCast_one, hms, List.length_append]; done) | rfl | (simp only [go_sem, seval, reduceCtorEq, dropF_ch, dropF_cons, dropF_nil, cut, cond_true, cond_false, Int.natCast_zero, Int.natCast_add, Int.natCast_one, hms, List.length_append]; rfl) | skip)
  · have d1 : ¬ (i : Int) < n' := by omega
    obtain rfl : i = n' := by omega
    simp (disch := omega) only [go_sem, seval, reduceCtorEq, d1]
    (refine FnEnd.mk (Nat.le_of_ble_eq_true rfl) rfl (of_decide_eq_true rfl) ?_ ?_ <;> try simp only [go_sem, seval, reduceCtorEq])
theorem sMapTensor_o {kf pf nf kt pt nt k a : Int} {t : Ten} {wd n : Nat} (b1 : I64 kf) (b2 : I64 pf) (b3 : I64 nf) (h : TSz 1048576 t) (hO : homOk kf pf nf kt pt nt k a = true) (hT : tensorOk ⟨kf, pf, nf⟩ t.labels t.dims t.data = true) (hw : width ⟨kf, pf, nf⟩ = wd) (hp : prodI t.dims = n) :
    Does Try.prog 44 [ringA kf pf nf, ringA kt pt nt, homA k a, tenA t] [] (.tup [ownT 0 ⟨t.labels, t.dims, mapTo kf pf kt pt nt k a wd t.data n⟩, .d (.bool true)]) (stoT ⟨t.labels, t.dims, mapTo kf pf kt pt nt k a wd t.data n⟩) := by
  have hcH := sHomOk_d (kf := kf) (pf := pf) (nf := nf) (kt := kt) (pt := pt) (nt := nt) (k := k) (a := a) b3
  have hcM := l07Map_d h hO hT hw hp
  simp only [homA] at hcH hcM
  (refine spec_of (by kernel_rfl) Try.func44 k_spec_MapTensor (fnOk (Nat.le_of_ble_eq_true rfl) ?_); unfold C_spec_MapTensor)
  simp only [homA]
  (simp only [Nat.reduceSub, List.length_cons, List.length_nil, Nat.reduceAdd, ch_init1, ch_init2, ch_init3, ch_init4, ch_init5, ch_init6, ch_init7, ch_init8]; try simp only [ch_rep]); (simp only [go_sem, seval, reduceCtorEq, List.replicate])
  (refine ti_call (hcH) ?_ ?_ ?_; (focus (simp only [go_sem, seval, reduceCtorEq]; done)); (first | rfl | (focus (simp only [go_sem]; done))))
  simp only [go_sem, seval, reduceCtorEq, hO]
  (refine ti_call (sTensorOk_d (t := t) b1 b2 b3 h.up) ?_ ?_ ?_; (focus (simp only [go_sem, seval, reduceCtorEq]; done)); (first | rfl | (focus (simp only [go_sem]; done))))
  simp only [go_sem, seval, reduceCtorEq, hT]
  (refine ti_call (hcM) ?_ ?_ ?_; (focus (simp only [go_sem, seval, reduceCtorEq]; done)); (first | rfl | (focus (simp only [go_sem]; done))))
  simp only [go_sem, seval, reduceCtorEq]
  (refine FnEnd.mk (Nat.le_of_ble_eq_true rfl) rfl (of_decide_eq_true rfl) ?_ ?_ <;> try simp only [go_sem, seval, reduceCtorEq])
/-! ### What both answer -/
def mapOk (kf pf nf kt pt nt k a : Int) (t : Ten) : Bool := homOk kf pf nf kt pt nt k a && tensorOk ⟨kf, pf, nf⟩ t.labels t.dims t.data
def mapT (kf pf nf kt pt nt k a : Int) (t : Ten) : Ten :=
  if mapOk kf pf nf kt pt nt k a t = true then ⟨t.labels, t.dims, mapTo kf pf kt pt nt k a (width ⟨kf, pf, nf⟩).toNat t.data (prodI t.dims).toNat⟩ else ⟨[], [], []⟩
theorem iMapTensor_d {kf pf nf kt pt nt k a : Int} {t : Ten} (b1 : I64 kf) (b2 : I64 pf) (b3 : I64 nf) (h : TSz 1048576 t) :
    Does Try.prog 48 [ringA kf pf nf, ringA kt pt nt, homA k a, tenA t] [] (.tup [ownT 0 (mapT kf pf nf kt pt nt k a t), .d (.bool (mapOk kf pf nf kt pt nt k a t))]) (stoT (mapT kf pf nf kt pt nt k a t)) := by
  have hcH := iHomOk_d (kf := kf) (pf := pf) (nf := nf) (kt := kt) (pt := pt) (nt := nt) (k := k) (a := a)
  cases hO : homOk kf pf nf kt pt nt k a
  · have e1 : mapOk kf pf nf kt pt nt k a t = false := by simp only [mapOk, hO, Bool.false_and]
    have e2 : mapT kf pf nf kt pt nt k a t = ⟨[], [], []⟩ := by simp [mapT, e1]
    rw [e1, e2]
    simp only [homA] at hcH
    (refine spec_of (by kernel_rfl) Try.func48 k_impl_MapTensor (fnOk (Nat.le_of_ble_eq_true rfl) ?_); unfold C_impl_MapTensor)
    simp only [homA]
    (simp only [Nat.reduceSub, List.length_cons, List.length_nil, Nat.reduceAdd, ch_init1, ch_init2, ch_init3, ch_init4, ch_init5, ch_init6, ch_init7, ch_init8]; try simp only [ch_rep]); (simp only [go_sem, seval, reduceCtorEq, List.replicate])
    (refine ti_call (hcH) ?_ ?_ ?_; (focus (simp only [go_sem, seval, reduceCtorEq]; done)); (first | rfl | (focus (simp only [go_sem]; done))))
    simp only [go_sem, seval, reduceCtorEq, hO]
    refine FnEnd.wk (Wk.trans (Wk.nilS 4 0 1 _ _ _ rfl rfl) (Wk.trans (Wk.nilS 4 1 1 _ _ _ rfl rfl) (Wk.nilS 4 2 1 _ _ _ rfl rfl))) ?_
    (refine FnEnd.mk (Nat.le_of_ble_eq_true rfl) rfl (of_decide_eq_true rfl) ?_ ?_ <;> try simp only [go_sem, seval, reduceCtorEq])
  cases hT : tensorOk ⟨kf, pf, nf⟩ t.labels t.dims t.data
  · have e1 : mapOk kf pf nf kt pt nt k a t = false := by simp only [mapOk, hT, Bool.and_false]
    have e2 : mapT kf pf nf kt pt nt k a t = ⟨[], [], []⟩ := by simp [mapT, e1]
    rw [e1, e2]
    simp only [homA] at hcH
    (refine spec_of (by kernel_rfl) Try.func48 k_impl_MapTensor (fnOk (Nat.le_of_ble_eq_true rfl) ?_); unfold C_impl_MapTensor)
    simp only [homA]
    (simp only [Nat.reduceSub, List.length_cons, List.length_nil, Nat.reduceAdd, ch_init1, ch_init2, ch_init3, ch_init4, ch_init5, ch_init6, ch_init7, ch_init8]; try simp only [ch_rep]); (simp only [go_sem, seval, reduceCtorEq, List.replicate])
    (refine ti_call (hcH) ?_ ?_ ?_; (focus (simp only [go_sem, seval, reduceCtorEq]; done)); (first | rfl | (focus (simp only [go_sem]; done))))
    simp only [go_sem, seval, reduceCtorEq, hO]
    (refine ti_call (iTensorOk_d (t := t) b1 b2 b3 h.up) ?_ ?_ ?_; (focus (simp only [go_sem, seval, reduceCtorEq]; done)); (first | rfl | (focus (simp only [go_sem]; done))))
    simp only [go_sem, seval, reduceCtorEq, hT]
    refine FnEnd.wk (Wk.trans (Wk.nilS 4 0 1 _ _ _ rfl rfl) (Wk.trans (Wk.nilS 4 1 1 _ _ _ rfl rfl) (Wk.nilS 4 2 1 _ _ _ rfl rfl))) ?_
    (refine FnEnd.mk (Nat.le_of_ble_eq_true rfl) rfl (of_decide_eq_true rfl) ?_ ?_ <;> try simp only [go_sem, seval, reduceCtorEq])
  obtain ⟨wd, n, hw, hp, hw1, hw6, hn1, hn2, hlen, hfit, hring, hax⟩ := ten_facts hT
  have e1 : mapOk kf pf nf kt pt nt k a t = true := by simp only [mapOk, hT, hO, Bool.and_true]
  have e2 : mapT kf pf nf kt pt nt k a t = ⟨t.labels, t.dims, mapTo kf pf kt pt nt k a wd t.data n⟩ := by
    rw [mapT, if_pos e1, hw, hp]; rfl
  rw [e1, e2]
  exact iMapTensor_o b1 b2 b3 h hO hT hw hp
theorem sMapTensor_d {kf pf nf kt pt nt k a : Int} {t : Ten} (b1 : I64 kf) (b2 : I64 pf) (b3 : I64 nf) (h : TSz 1048576 t) :
    Does Try.prog 44 [ringA kf pf nf, ringA kt pt nt, homA k a, tenA t] [] (.tup [ownT 0 (mapT kf pf nf kt pt nt k a t), .d (.bool (mapOk kf pf nf kt pt nt k a t))]) (stoT (mapT kf pf nf kt pt nt k a t)) := by
  have hcH := sHomOk_d (kf := kf) (pf := pf) (nf := nf) (kt := kt) (pt := pt) (nt := nt) (k := k) (a := a) b3
  cases hO : homOk kf pf nf kt pt nt k a
  · have e1 : mapOk kf pf nf kt pt nt k a t = false := by simp only [mapOk, hO, Bool.false_and]
    have e2 : mapT kf pf nf kt pt nt k a t = ⟨[], [], []⟩ := by simp [mapT, e1]
    rw [e1, e2]
    simp only [homA] at hcH
    (refine spec_of (by kernel_rfl) Try.func44 k_spec_MapTensor (fnOk (Nat.le_of_ble_eq_true rfl) ?_); unfold C_spec_MapTensor)
    simp only [homA]
    (simp only [Nat.reduceSub, List.length_cons, List.length_nil, Nat.reduceAdd, ch_init1, ch_init2, ch_init3, ch_init4, ch_init5, ch_init6, ch_init7, ch_init8]; try simp only [ch_rep]); (simp only [go_sem, seval, reduceCtorEq, List.replicate])
    (refine ti_call (hcH) ?_ ?_ ?_; (focus (simp only [go_sem, seval, reduceCtorEq]; done)); (first | rfl | (focus (simp only [go_sem]; done))))
    simp only [go_sem, seval, reduceCtorEq, hO]
    refine FnEnd.wk (Wk.trans (Wk.nilS 4 0 1 _ _ _ rfl rfl) (Wk.trans (Wk.nilS 4 1 1 _ _ _ rfl rfl) (Wk.nilS 4 2 1 _ _ _ rfl rfl))) ?_
    (refine FnEnd.mk (Nat.le_of_ble_eq_true rfl) rfl (of_decide_eq_true rfl) ?_ ?_ <;> try simp only [go_sem, seval, reduceCtorEq])
  cases hT : tensorOk ⟨kf, pf, nf⟩ t.labels t.dims t.data
  · have e1 : mapOk kf pf nf kt pt nt k a t = false := by simp only [mapOk, hT, Bool.and_false]
    have e2 : mapT kf pf nf kt pt nt k a t = ⟨[], [], []⟩ := by simp [mapT, e1]
    rw [e1, e2]
    simp only [homA] at hcH
    (refine spec_of (by kernel_rfl) Try.func44 k_spec_MapTensor (fnOk (Nat.le_of_ble_eq_true rfl) ?_); unfold C_spec_MapTensor)
    simp only [homA]
    (simp only [Nat.reduceSub, List.length_cons, List.length_nil, Nat.reduceAdd, ch_init1, ch_init2, ch_init3, ch_init4, ch_init5, ch_init6, ch_init7, ch_init8]; try simp only [ch_rep]); (simp only [go_sem, seval, reduceCtorEq, List.replicate])
    (refine ti_call (hcH) ?_ ?_ ?_; (focus (simp only [go_sem, seval, reduceCtorEq]; done)); (first | rfl | (focus (simp only [go_sem]; done))))
    simp only [go_sem, seval, reduceCtorEq, hO]
    (refine ti_call (sTensorOk_d (t := t) b1 b2 b3 h.up) ?_ ?_ ?_; (focus (simp only [go_sem, seval, reduceCtorEq]; done)); (first | rfl | (focus (simp only [go_sem]; done))))
    simp only [go_sem, seval, reduceCtorEq, hT]
    refine FnEnd.wk (Wk.trans (Wk.nilS 4 0 1 _ _ _ rfl rfl) (Wk.trans (Wk.nilS 4 1 1 _ _ _ rfl rfl) (Wk.nilS 4 2 1 _ _ _ rfl rfl))) ?_
    (refine FnEnd.mk (Nat.le_of_ble_eq_true rfl) rfl (of_decide_eq_true rfl) ?_ ?_ <;> try simp only [go_sem, seval, reduceCtorEq])
  obtain ⟨wd, n, hw, hp, hw1, hw6, hn1, hn2, hlen, hfit, hring, hax⟩ := ten_facts hT
  have e1 : mapOk kf pf nf kt pt nt k a t = true := by simp only [mapOk, hT, hO, Bool.and_true]
  have e2 : mapT kf pf nf kt pt nt k a t = ⟨t.labels, t.dims, mapTo kf pf kt pt nt k a wd t.data n⟩ := by
    rw [mapT, if_pos e1, hw, hp]; rfl
  rw [e1, e2]
  exact sMapTensor_o b1 b2 b3 h hO hT hw hp
end Go.Proofs.Ytjoopfojiiklnaa
