/-
  Contracts: slices of tensors, by the reference. No condition.
-/
import Derived.Test.YtjncdanegoileaaConM
import Derived.Test.YtjncdanegoileaaPlB
namespace Go.Proofs.Ytjncdanegoileaa
open Go.RowKit Go.Lift Plain
set_option linter.unusedSimpArgs false
set_option linter.unusedVariables false
set_option maxRecDepth 100000

theorem gathF_len {src : List Int} {wd : Nat} {p : Nat → Bool} : ∀ {n : Nat}, n * wd ≤ src.length → (gathF src wd p n).length ≤ n * wd
  | 0, _ => by simp [gathF]
  | n + 1, h => by
    rw [Nat.add_mul, Nat.one_mul] at h ⊢
    have ih := gathF_len (src := src) (wd := wd) (p := p) (n := n) (by omega)
    rw [gathF]
    split
    · rw [List.length_append, cut_len (by omega)]; omega
    · omega
theorem l09Slice_d {kk pp nn : Int} {t : Ten} {x : Int} {u wd n j : Nat} (hw : width ⟨kk, pp, nn⟩ = wd) (hS : SliOk t x u wd n j) (h : TSz 1048576 t) :
    Does Try.prog 134 [ringA kk pp nn, tenA t, .d (.int x), .d (.int u)] [] (ownT 0 (sliR wd t x u j)) (stoF (sliR wd t x u j)) := by
  have hxl := h.x.len
  have hax := hS.ax
  have hl12 := hax.1
  have hal := hax.len
  have hpl := hS.place
  have hn1 := hS.n1
  have hwb := hS.w1
  have hpn := hS.pn
  have hdl3 := hS.dl
  have hjd := hS.jd
  (refine spec_of (by kernel_rfl) Try.func134 k_spec_l09Slice (fnOk (Nat.le_of_ble_eq_true rfl) ?_); unfold C_spec_l09Slice)
  (simp only [Nat.reduceSub, List.length_cons, List.length_nil, Nat.reduceAdd, ch_init1, ch_init2, ch_init3, ch_init4, ch_init5, ch_init6, ch_init7, ch_init8]; try simp only [ch_rep]); (simp only [go_sem, seval, reduceCtorEq, List.replicate])
  (refine ti_call (l05Find_d (xs := t.labels) (x := x) h.l.up.len) ?_ ?_ ?_; (focus (simp only [go_sem, seval, reduceCtorEq]; done)); (first | rfl | (focus (simp only [go_sem]; done))))
  simp (disch := omega) only [go_sem, seval, reduceCtorEq, hpl]
  (refine wpN_lwk (Wk.nilS 3 0 1 _ _ _ rfl rfl) ?_; simp only [go_sem, seval, reduceCtorEq])
  (refine wpN_lwk (Wk.nilS 3 1 1 _ _ _ rfl rfl) ?_; simp only [go_sem, seval, reduceCtorEq])
  generalize hF : (fun k : Nat => (t.labels.take k).filter (· != x)) = F
  have hF0 : F 0 = [] := by rw [← hF]; rfl
  have hFl : ∀ k, (F k).length ≤ 12 := fun k => by
    rw [← hF]
    have := filter_len t.labels k (· != x)
    simp only
    omega
  have hFn : F t.labels.length = wo t.labels x := by rw [← hF]; simp [wo]
  refine wpN_lp (t.labels.length) [false, false, false, false, false, false, false, false, false, false, false, true, true, false, false, false, false, false, false, false, false, false, false, true, true, true, true, true, true, true, true, true, true, true, true, true, true, true, true, true, true, true, true, true, true, true, true, false, false, false, false, false, false, false, false, false, false, false, false, false, false, false, false, false, false, false, false, false, false, false, false, false] (fun k => [(22, .d (.int k))]) (fun k => [(3, [.own 4 0 (F k).length, .own 5 0 (F k).length, .nil]), (4, iv (F k)), (5, iv ((F k).map (dimAt t)))]) (fun _ => by (simp only [go_sem, seval, reduceCtorEq, dropF_ch, dropF_cons, dropF_nil, cut, cond_true, cond_false]); first | done | rfl) (fun _ => by (simp only [go_sem, seval, reduceCtorEq, cut]); first | done | rfl) (Nat.le_of_ble_eq_true rfl) (by first | (simp only [go_sem, seval, reduceCtorEq, dropF_ch, dropF_cons, dropF_nil, cut, cond_true, cond_false, Int.natCast_zero, Int.natCast_add, Int.natCast_one, hF0, List.map_nil, iv_nil]; done) | rfl | (simp only [go_sem, seval, reduceCtorEq, dropF_ch, dropF_cons, dropF_nil, cut, cond_true, cond_false, Int.natCast_zero, Int.natCast_add, Int.natCast_one, hF0, List.map_nil, iv_nil]; rfl)) (by first | (simp only [go_sem, seval, reduceCtorEq, dropF_ch, dropF_cons, dropF_nil, cut, cond_true, cond_false, Int.natCast_zero, Int.natCast_add, Int.natCast_one, hF0, List.map_nil, iv_nil]; done) | rfl | (simp only [go_sem, seval, reduceCtorEq, dropF_ch, dropF_cons, dropF_nil, cut, cond_true, cond_false, Int.natCast_zero, Int.natCast_add, Int.natCast_one, hF0, List.map_nil, iv_nil]; rfl)) fun k hk => ?_
  unfold L1_spec_l09Slice
  by_cases hlt : k < t.labels.length
  · have d1 : (k : Int) < t.labels.length := by omega
    have g : t.labels[k]? = some t.labels[k] := List.getElem?_eq_getElem hlt
    have hkd : k < t.dims.length := by omega
    have g2 : t.dims[k]? = some (dimAt t t.labels[k]) := by rw [List.getElem?_eq_getElem hkd, dimAt_at hax hlt hkd]
    have d2 : (k : Int) < t.dims.length := by omega
    have hfl := hFl k
    by_cases hkj : k = j
    · have hne : ((k : Int) != j) = false := by simp [hkj]
      have hx : t.labels[k] = x := by have := hS.lx; subst hkj; exact this
      have hstep : F (k + 1) = F k := by rw [← hF]; exact filter_no hlt (by simp [hx])
      simp (disch := omega) only [go_sem, seval, reduceCtorEq, d1, g, hne]
      (refine Next.drop [false, false, false, false, false, false, false, false, false, false, false, true, true, false, false, false, false, false, false, false, false, false, false, true, true, true, true, true, true, true, true, true, true, true, true, true, true, true, true, true, true, true, true, true, true, true, true, false, false, false, false, false, false, false, false, false, false, false, false, false, false, false, false, false, false, false, false, false, false, false, false, false] (by omega) (Nat.le_of_ble_eq_true rfl) ?_ ?_ <;> first | (simp only [go_sem, seval, reduceCtorEq, dropF_ch, dropF_cons, dropF_nil, cut, cond_true, cond_false, Int.natCast_zero, Int.natCast_add, Int.natCast_one, hstep]; done) | rfl | (simp only [go_sem, seval, reduceCtorEq, dropF_ch, dropF_cons, dropF_nil, cut, cond_true, cond_false, Int.natCast_zero, Int.natCast_add, Int.natCast_one, hstep]; rfl) | skip)
    · have hne : ((k : Int) != j) = true := by simp; omega
      have hx : t.labels[k] ≠ x := fun e => by
        have := nodup_at hS.nodup hlt hS.jl (e.trans hS.lx.symm)
        omega
      have hstep : F (k + 1) = F k ++ [t.labels[k]] := by rw [← hF]; exact filter_yes hlt (by simpa using hx)
      have hml : ((F k).map (dimAt t)).length = (F k).length := by simp
      simp (disch := omega) only [go_sem, seval, reduceCtorEq, d1, d2, g, g2, hne]
      refine ⟨by omega, by omega, ?_⟩
      (refine Next.drop [false, false, false, false, false, false, false, false, false, false, false, true, true, false, false, false, false, false, false, false, false, false, false, true, true, true, true, true, true, true, true, true, true, true, true, true, true, true, true, true, true, true, true, true, true, true, true, false, false, false, false, false, false, false, false, false, false, false, false, false, false, false, false, false, false, false, false, false, false, false, false, false] (by omega) (Nat.le_of_ble_eq_true rfl) ?_ ?_ <;> first | (simp only [go_sem, seval, reduceCtorEq, dropF_ch, dropF_cons, dropF_nil, cut, cond_true, cond_false, Int.natCast_zero, Int.natCast_add, Int.natCast_one, hstep, List.map_append, List.map_cons, List.map_nil, List.length_append]; done) | rfl | (simp only [go_sem, seval, reduceCtorEq, dropF_ch, dropF_cons, dropF_nil, cut, cond_true, cond_false, Int.natCast_zero, Int.natCast_add, Int.natCast_one, hstep, List.map_append, List.map_cons, List.map_nil, List.length_append]; rfl) | skip)
  · have d1 : ¬ (k : Int) < t.labels.length := by omega
    have hkl : k = t.labels.length := by omega
    subst hkl
    have hWl := hS.len
    have hDs := hS.dims
    simp (disch := omega) only [go_sem, seval, reduceCtorEq, d1, hFn, hDs]
    generalize hWg : wo t.labels x = W at *
    (refine wpN_lwk (Wk.nilS 3 2 1 _ _ _ rfl rfl) ?_; simp only [go_sem, seval, reduceCtorEq])
    have hP := prodN_eq hS.d1
    generalize hp : (fun n : Nat => decide ((digits t.dims n).getD j 0 = (u : Int))) = p
    refine wpN_lp (n) [false, false, false, false, false, false, false, false, false, false, false, false, false, false, false, false, false, false, false, false, false, false, false, false, false, false, false, false, false, false, false, false, false, false, false, false, false, false, false, false, false, false, false, false, false, false, false, true, true, true, true, true, true, true, true, true, true, true, true, true, true, true, true, true, true, true, true, true, true, true, true, false] (fun i => [(13, .d (.int i))]) (fun i => [(3, [.own 4 0 W.length, .own 5 0 W.length, .own 6 0 (gathF t.data wd p i).length]), (6, iv (gathF t.data wd p i))]) (fun _ => by (simp only [go_sem, seval, reduceCtorEq, dropF_ch, dropF_cons, dropF_nil, cut, cond_true, cond_false]); first | done | rfl) (fun _ => by (simp only [go_sem, seval, reduceCtorEq, cut]); first | done | rfl) (Nat.le_of_ble_eq_true rfl) (by first | (simp only [go_sem, seval, reduceCtorEq, dropF_ch, dropF_cons, dropF_nil, cut, cond_true, cond_false, Int.natCast_zero, Int.natCast_add, Int.natCast_one, gathF, iv_nil]; done) | rfl | (simp only [go_sem, seval, reduceCtorEq, dropF_ch, dropF_cons, dropF_nil, cut, cond_true, cond_false, Int.natCast_zero, Int.natCast_add, Int.natCast_one, gathF, iv_nil]; rfl)) (by first | (simp only [go_sem, seval, reduceCtorEq, dropF_ch, dropF_cons, dropF_nil, cut, cond_true, cond_false, Int.natCast_zero, Int.natCast_add, Int.natCast_one, gathF, iv_nil]; done) | rfl | (simp only [go_sem, seval, reduceCtorEq, dropF_ch, dropF_cons, dropF_nil, cut, cond_true, cond_false, Int.natCast_zero, Int.natCast_add, Int.natCast_one, gathF, iv_nil]; rfl)) fun i hi => ?_
    unfold L0_spec_l09Slice
    simp only [go_sem, seval, reduceCtorEq]
    (refine ti_call (l05Product_d (ds := t.dims) (lim := 4096) h.d.up.len (fun d hd => by have := hax.dim d hd; omega) (by omega)) ?_ ?_ ?_; (focus (simp only [go_sem, seval, reduceCtorEq]; done)); (first | rfl | (focus (simp only [go_sem]; done))))
    have hmn : min (prodI t.dims) 4097 = n := by omega
    by_cases hlti : i < n
    · have c2 : (i : Int) < n := by omega
      have hst := mul_step (wd := wd) hlti
      have hnw : n * wd ≤ 4096 * 6 := Nat.mul_le_mul (by omega) hwb.2
      have hgl := gathF_len (src := t.data) (wd := wd) (p := p) (n := i) (by omega)
      have hcut : i * wd + wd ≤ t.data.length := by omega
      have hcl := cut_len hcut
      have htt : List.take wd (List.take wd (List.drop (i * wd) t.data)) = List.take wd (List.drop (i * wd) t.data) := List.take_of_length_le (by omega)
      simp (disch := omega) only [go_sem, seval, reduceCtorEq, hmn, c2]
      (refine ti_call (l05Index_d (ds := t.dims) (n := i) (fun d hd => by have := hax.dim d hd; omega) (by omega) (by omega)) ?_ ?_ ?_; (focus (simp only [go_sem, seval, reduceCtorEq]; done)); (first | rfl | (focus (simp only [go_sem]; done))))
      have hdl := digits_len t.dims i
      have g3 : (digits t.dims i)[j]? = some ((digits t.dims i).getD j 0) := by rw [getD_of (by omega)]; exact List.getElem?_eq_getElem (by omega)
      have c3 : (j : Int) < t.dims.length := by omega
      by_cases hpi : (digits t.dims i).getD j 0 = (u : Int)
      · have hb : ((digits t.dims i).getD j 0 == (u : Int)) = true := beq_iff_eq.2 hpi
        have hst2 : gathF t.data wd p (i + 1) = gathF t.data wd p i ++ (t.data.drop (i * wd)).take wd := by rw [gathF, if_pos (by simp only [← hp]; exact decide_eq_true hpi)]
        simp (disch := omega) only [go_sem, seval, reduceCtorEq, g3, c3, hb]
        (refine gi_call (l05Get_d (t := t) (x := i) hw (by omega) hcut (by omega) (by omega)) ?_ ?_ ?_; (focus (simp only [go_sem, seval, reduceCtorEq]; done)); (first | rfl | (focus (simp only [go_sem]; done))))
        simp (disch := omega) only [go_sem, seval, reduceCtorEq, hcl, htt]
        refine ⟨by omega, ?_⟩
        (refine Next.drop [false, false, false, false, false, false, false, false, false, false, false, false, false, false, false, false, false, false, false, false, false, false, false, false, false, false, false, false, false, false, false, false, false, false, false, false, false, false, false, false, false, false, false, false, false, false, false, true, true, true, true, true, true, true, true, true, true, true, true, true, true, true, true, true, true, true, true, true, true, true, true, false] (by omega) (Nat.le_of_ble_eq_true rfl) ?_ ?_ <;> first | (simp only [go_sem, seval, reduceCtorEq, dropF_ch, dropF_cons, dropF_nil, cut, cond_true, cond_false, Int.natCast_zero, Int.natCast_add, Int.natCast_one, hst2, List.length_append, hcl]; done) | rfl | (simp only [go_sem, seval, reduceCtorEq, dropF_ch, dropF_cons, dropF_nil, cut, cond_true, cond_false, Int.natCast_zero, Int.natCast_add, Int.natCast_one, hst2, List.length_append, hcl]; rfl) | skip)
      · have hb : ((digits t.dims i).getD j 0 == (u : Int)) = false := beq_false_of_ne hpi
        have hst2 : gathF t.data wd p (i + 1) = gathF t.data wd p i := by rw [gathF, if_neg (by simp only [← hp, decide_eq_true_eq]; exact hpi)]
        simp (disch := omega) only [go_sem, seval, reduceCtorEq, g3, c3, hb]
        (refine Next.drop [false, false, false, false, false, false, false, false, false, false, false, false, false, false, false, false, false, false, false, false, false, false, false, false, false, false, false, false, false, false, false, false, false, false, false, false, false, false, false, false, false, false, false, false, false, false, false, true, true, true, true, true, true, true, true, true, true, true, true, true, true, true, true, true, true, true, true, true, true, true, true, false] (by omega) (Nat.le_of_ble_eq_true rfl) ?_ ?_ <;> first | (simp only [go_sem, seval, reduceCtorEq, dropF_ch, dropF_cons, dropF_nil, cut, cond_true, cond_false, Int.natCast_zero, Int.natCast_add, Int.natCast_one, hst2]; done) | rfl | (simp only [go_sem, seval, reduceCtorEq, dropF_ch, dropF_cons, dropF_nil, cut, cond_true, cond_false, Int.natCast_zero, Int.natCast_add, Int.natCast_one, hst2]; rfl) | skip)
    · have hin : i = n := by omega
      have c2 : ¬ (n : Int) < n := by omega
      have hfin : gathF t.data wd p n = gath t.data wd (offJ u t.dims j) (sliN t j) := by
        have : n = prodN t.dims := by have := hP.1; omega
        rw [this, ← hp]
        exact gathF_gath hS.d1 hjd hS.vd
      have hDl := hS.dlen
      rw [hin]
      simp (disch := omega) only [go_sem, seval, reduceCtorEq, hmn, c2, hfin]
      refine FnEnd.wk Wk.nogA ?_
      (refine FnEnd.mk (Nat.le_of_ble_eq_true rfl) rfl (of_decide_eq_true rfl) ?_ ?_ <;> try simp only [go_sem, seval, reduceCtorEq])
      all_goals simp only [sliR, hWg, hDl]
end Go.Proofs.Ytjncdanegoileaa
