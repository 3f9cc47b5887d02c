/-
  Contracts: elements of a tensor that are written. No condition.
-/
import Derived.Test.YtmgifmgdfldheaaConE
import Derived.Test.YtmgifmgdfldheaaLiftG
namespace Go.Proofs.Ytmgifmgdfldheaa
open Go.RowKit Go.Lift Plain
set_option linter.unusedSimpArgs false
set_option linter.unusedVariables false
set_option maxRecDepth 100000

/-- ys written over xs from off on. -/
def putE (xs : List Int) (off : Nat) (ys : List Int) : List Int := xs.take off ++ ys ++ xs.drop (off + ys.length)
theorem putE_len {xs ys : List Int} {off : Nat} (h : off + ys.length ≤ xs.length) : (putE xs off ys).length = xs.length := by simp [putE]; omega
theorem putE_get {xs ys : List Int} {off i : Nat} (h : off + ys.length ≤ xs.length) : (putE xs off ys)[i]? = if off ≤ i ∧ i < off + ys.length then ys[i - off]? else xs[i]? := by
  unfold putE
  by_cases h1 : i < off
  · rw [if_neg (by omega), List.append_assoc, List.getElem?_append_left (by simp; omega), List.getElem?_take, if_pos h1]
  · by_cases h2 : i < off + ys.length
    · rw [if_pos (by omega), List.getElem?_append_left (by simp; omega), List.getElem?_append_right (by simp; omega)]
      congr 1
      simp; omega
    · rw [if_neg (by omega), List.getElem?_append_right (by simp; omega), List.getElem?_drop]
      congr 1
      simp; omega
/-- One more written. -/
theorem putE_next {xs ys : List Int} {off k : Nat} (h : off + ys.length ≤ xs.length) (hk : k < ys.length) :
    (putE xs off (ys.take k)).take (off + k) ++ [ys[k]] ++ (putE xs off (ys.take k)).drop (off + k + 1) = putE xs off (ys.take (k + 1)) := by
  have hl : (ys.take k).length = k := by simp; omega
  rw [put_set (by rw [putE_len (by omega)]; omega)]
  refine List.ext_getElem? fun i => ?_
  rw [List.getElem?_set, putE_get (by omega), putE_get (by simp; omega), putE_len (by omega)]
  have hl2 : (ys.take (k + 1)).length = k + 1 := by simp; omega
  rw [hl, hl2]
  by_cases h1 : off + k = i
  · subst h1
    rw [if_pos rfl, if_pos (by omega), if_pos (by omega), List.getElem?_take, if_pos (by omega), show off + k - off = k by omega, List.getElem?_eq_getElem hk]
  · rw [if_neg h1]
    by_cases h2 : off ≤ i ∧ i < off + k
    · rw [if_pos h2, if_pos (by omega), List.getElem?_take, List.getElem?_take, if_pos (by omega), if_pos (by omega)]
    · rw [if_neg h2, if_neg (by omega)]
theorem putE_zero (xs : List Int) (off : Nat) : putE xs off [] = xs := by simp [putE]
theorem putE_wf {xs ys : List Int} {off : Nat} (h : ∀ x ∈ xs, I64 x) (h' : ∀ x ∈ ys, I64 x) : ∀ x ∈ putE xs off ys, I64 x := by
  intro x hx
  simp only [putE, List.mem_append] at hx
  rcases hx with (hx | hx) | hx
  · exact h x (List.mem_of_mem_take hx)
  · exact h' x hx
  · exact h x (List.mem_of_mem_drop hx)

theorem copyTensor_f {t : Ten} (h : TSz 1048576 t) : Does Try.prog 73 [tenA t] [] (ownT 0 t) (stoF t) := (copyTensor_d h).nog [0, 1, 2] rfl
theorem l05Copy_f {t : Ten} (h : TSz 1048576 t) : Does Try.prog 71 [tenA t] [] (ownT 0 t) (stoF t) := (l05Copy_d h).nog [0, 1, 2] rfl
theorem rawElemW_d {x wd : Nat} {kk pp nn : Int} {t : Ten} (hw : width ⟨kk, pp, nn⟩ = (wd : Int)) (h1 : 1 ≤ wd ∧ wd ≤ 6) (hx : x * wd + wd ≤ t.data.length) (hx2 : x ≤ 1099511627776) (h : t.data.length ≤ 1099511627776) :
    Does Try.prog 70 [ringA kk pp nn, ownT 0 t, .d (.int x)] (stoF t) (.own 2 (x * wd) wd) (stoF t) := by
  (refine spec_of (by kernel_rfl) Try.func70 k_impl_rawElem (fnOk (Nat.le_of_ble_eq_true rfl) ?_); unfold C_impl_rawElem)
  (simp only [Nat.reduceSub, List.length_cons, List.length_nil, Nat.reduceAdd, ch_init1, ch_init2, ch_init3, ch_init4, ch_init5, ch_init6, ch_init7, ch_init8]; try simp only [ch_rep]); (simp only [go_sem, seval, reduceCtorEq, List.replicate])
  (refine ti_call (rawWidth_d kk pp nn) ?_ ?_ ?_; (focus (simp only [go_sem, seval, reduceCtorEq]; done)); (first | rfl | (focus (simp only [go_sem]; done))))
  have e1 : (x : Int) * wd = (x * wd : Nat) := by push_cast; rfl
  have e2 : ((x : Int) + 1) * wd = (x * wd + wd : Nat) := by push_cast; rw [Int.add_mul, Int.one_mul]
  have e3 : (((x * wd + wd : Nat) : Int) - (x * wd : Nat)).toNat = wd := by omega
  have c1 : ((x * wd : Nat) : Int) < (x * wd + wd : Nat) := by omega
  simp (disch := omega) only [go_sem, seval, reduceCtorEq, hw, e1, e2, e3, c1, or_true]
  refine ⟨⟨by omega, by omega⟩, ?_⟩
  (refine FnEnd.mk (Nat.le_of_ble_eq_true rfl) rfl (of_decide_eq_true rfl) ?_ ?_ <;> try simp only [go_sem, seval, reduceCtorEq])
theorem l05Put_d {x wd : Nat} {kk pp nn : Int} {t : Ten} {ys : List Int} (hw : width ⟨kk, pp, nn⟩ = (wd : Int)) (hy : ys.length = wd) (h1 : 1 ≤ wd ∧ wd ≤ 6) (hx : x * wd + wd ≤ t.data.length) (hx2 : x ≤ 1099511627776) (h : t.data.length ≤ 1099511627776) :
    Does Try.prog 76 [ringA kk pp nn, ownT 0 t, .d (.int x), .d (ints ys)] (stoF t) (.tup []) (stoF ⟨t.labels, t.dims, putE t.data (x * wd) ys⟩) := by
  (refine spec_of (by kernel_rfl) Try.func76 k_spec_l05Put (fnOk (Nat.le_of_ble_eq_true rfl) ?_); unfold C_spec_l05Put)
  (simp only [Nat.reduceSub, List.length_cons, List.length_nil, Nat.reduceAdd, ch_init1, ch_init2, ch_init3, ch_init4, ch_init5, ch_init6, ch_init7, ch_init8]; try simp only [ch_rep]); (simp only [go_sem, seval, reduceCtorEq, List.replicate])
  (refine ti_call (l02Width_d kk pp nn) ?_ ?_ ?_; (focus (simp only [go_sem, seval, reduceCtorEq]; done)); (first | rfl | (focus (simp only [go_sem]; done))))
  simp only [go_sem, seval, reduceCtorEq, hw]
  refine wpN_upto (ys.length) (fun k => (ch (.any) (.any) (.d (.int x)) (.d (ints ys)) (.any) (.ptr 4 0) (.any) (.any) (.d (.int wd)) (.any) (.any) (.any) (.any) (.d (.int ys.length)) (.d (.int k)) (.any) [.any, .any, .any, .any, .any, .any, .any, .any, .any, .any, .any, .any, .any, .any])) (fun k => [some ⟨1, false, iv t.labels⟩, some ⟨1, false, iv t.dims⟩, some ⟨1, false, iv (putE t.data (x * wd) (ys.take k))⟩, some ⟨0, false, [.d (.int kk), .d (.int pp), .d (.int nn)]⟩, some ⟨0, false, [.own 0 0 t.labels.length, .own 1 0 t.dims.length, .own 2 0 t.data.length]⟩]) (Wk.kept' [2, 3, 5, 8, 13, 14] 5 (Nat.le_of_ble_eq_true rfl) (by first | rfl | simp only [go_sem, seval, reduceCtorEq, keepE, keepF_ch, keepG_ch, keepF, keepG, cut, List.contains_cons, List.contains_nil, Nat.reduceBEq, Int.natCast_zero, Int.natCast_add, Int.natCast_one, List.take_zero, putE_zero]) (by first | rfl | simp only [go_sem, seval, reduceCtorEq, keepE, keepF_ch, keepG_ch, keepF, keepG, cut, List.contains_cons, List.contains_nil, Nat.reduceBEq, Int.natCast_zero, Int.natCast_add, Int.natCast_one, List.take_zero, putE_zero])) fun k hk => ?_
  unfold L0_spec_l05Put
  by_cases hlt : k < ys.length
  · have h1 : (k : Int) < ys.length := by omega
    have hx : ys[k]? = some ys[k] := List.getElem?_eq_getElem hlt
    have e1 : (x : Int) * wd = (x * wd : Nat) := by push_cast; rfl
    have e2 : ((x * wd : Nat) : Int) + k = (x * wd + k : Nat) := by push_cast; rfl
    have hlk : (ys.take k).length = k := by simp; omega
    have hpl : (putE t.data (x * wd) (ys.take k)).length = t.data.length := putE_len (by omega)
    have hn := putE_next (xs := t.data) (ys := ys) (off := x * wd) (k := k) (by omega) hlt
    simp (disch := omega) only [go_sem, seval, reduceCtorEq, h1, hx, e1, e2]
    refine ⟨by omega, by rw [hpl]; omega, ?_⟩
    (refine Next.mk hlt (Wk.kept' [2, 3, 5, 8, 13, 14] 5 (Nat.le_of_ble_eq_true rfl) ?_ ?_) <;> first | rfl | (simp only [go_sem, seval, reduceCtorEq, keepE, keepF_ch, keepG_ch, keepF, keepG, cut, List.contains_cons, List.contains_nil, Nat.reduceBEq, Int.natCast_zero, Int.natCast_add, Int.natCast_one, hn]; done) | skip)
  · have h1 : ¬ (k : Int) < ys.length := by omega
    simp (disch := omega) only [go_sem, seval, reduceCtorEq, h1]
    (refine FnEnd.mk (Nat.le_of_ble_eq_true rfl) rfl (of_decide_eq_true rfl) ?_ ?_ <;> try simp only [go_sem, seval, reduceCtorEq])
    all_goals rw [List.take_of_length_le (by omega)]

/-! ### An element set -/
def setOk (r : Rg) (t : Ten) (is x : List Int) : Bool := tensorOk r t.labels t.dims t.data && idxB t.dims is && elemOk r x
def setT (r : Rg) (t : Ten) (is x : List Int) : Ten := if setOk r t is x = true then ⟨t.labels, t.dims, putE t.data ((offs t.dims is).toNat * (width r).toNat) x⟩ else ⟨[], [], []⟩
theorem elemOk_len {r : Rg} {x : List Int} (h : elemOk r x = true) : (x.length : Int) = width r := by
  simp only [elemOk, Bool.and_eq_true, decide_eq_true_eq] at h
  exact h.1.2
theorem setT_yes {r : Rg} {t : Ten} {is x : List Int} {o wd : Nat} (h : setOk r t is x = true) (h1 : offs t.dims is = o) (h2 : width r = wd) : setT r t is x = ⟨t.labels, t.dims, putE t.data (o * wd) x⟩ := by
  rw [setT, if_pos h, h1, h2]; rfl
theorem setT_sz {r : Rg} {t : Ten} {is x : List Int} (h : TSz 1048576 t) (hx : Sz 1048576 x) : TSz 1048576 (setT r t is x) := by
  by_cases ho : setOk r t is x = true
  · have ho' := ho
    simp only [setOk, Bool.and_eq_true] at ho'
    obtain ⟨o, wd, e1, e2, e3, e4, e5, e6, _, _⟩ := elem_facts ho'.1.1 ho'.1.2
    have hl := elemOk_len ho'.2
    rw [setT_yes ho e1 e2]
    exact ⟨h.l, h.d, ⟨by rw [putE_len (by omega)]; exact h.x.len, putE_wf h.x.wf hx.wf⟩⟩
  · rw [setT, if_neg ho]
    exact ⟨⟨by simp, by simp⟩, ⟨by simp, by simp⟩, ⟨by simp, by simp⟩⟩
theorem iSetElem_d {kk pp nn : Int} {t : Ten} {is x : List Int} (a : I64 kk) (b : I64 pp) (c : I64 nn) (h : TSz 1048576 t) (hi : Sz 1048576 is) (hx : Sz 1048576 x) :
    Does Try.prog 40 [ringA kk pp nn, tenA t, .d (ints is), .d (ints x)] [] (ownT 0 (setT ⟨kk, pp, nn⟩ t is x)) (stoF (setT ⟨kk, pp, nn⟩ t is x)) := by
  (refine spec_of (by kernel_rfl) Try.func40 k_impl_SetElem (fnOk (Nat.le_of_ble_eq_true rfl) ?_); unfold C_impl_SetElem)
  (simp only [Nat.reduceSub, List.length_cons, List.length_nil, Nat.reduceAdd, ch_init1, ch_init2, ch_init3, ch_init4, ch_init5, ch_init6, ch_init7, ch_init8]; try simp only [ch_rep]); (simp only [go_sem, seval, reduceCtorEq, List.replicate])
  (refine ti_call (iTensorOk_d (t := t) a b c h.up) ?_ ?_ ?_; (focus (simp only [go_sem, seval, reduceCtorEq]; done)); (first | rfl | (focus (simp only [go_sem]; done))))
  cases h1 : tensorOk ⟨kk, pp, nn⟩ t.labels t.dims t.data
  · have e2 : setT ⟨kk, pp, nn⟩ t is x = ⟨[], [], []⟩ := by simp [setT, setOk, h1]
    simp only [go_sem, seval, reduceCtorEq, h1, e2]
    refine FnEnd.wk (Wk.trans (Wk.nilS 2 0 1 _ _ _ rfl rfl) (Wk.trans (Wk.nilS 2 1 1 _ _ _ rfl rfl) (Wk.trans (Wk.nilS 2 2 1 _ _ _ rfl rfl) Wk.nogA))) ?_
    (refine FnEnd.mk (Nat.le_of_ble_eq_true rfl) rfl (of_decide_eq_true rfl) ?_ ?_ <;> try simp only [go_sem, seval, reduceCtorEq])
  simp only [go_sem, seval, reduceCtorEq, h1]
  (refine ti_call (indexOk_d (ds := t.dims) (is := is) h.d.up hi.up) ?_ ?_ ?_; (focus (simp only [go_sem, seval, reduceCtorEq]; done)); (first | rfl | (focus (simp only [go_sem]; done))))
  cases h2 : idxB t.dims is
  · have e2 : setT ⟨kk, pp, nn⟩ t is x = ⟨[], [], []⟩ := by simp [setT, setOk, h2]
    simp only [go_sem, seval, reduceCtorEq, h2, e2]
    refine FnEnd.wk (Wk.trans (Wk.nilS 2 0 1 _ _ _ rfl rfl) (Wk.trans (Wk.nilS 2 1 1 _ _ _ rfl rfl) (Wk.trans (Wk.nilS 2 2 1 _ _ _ rfl rfl) Wk.nogA))) ?_
    (refine FnEnd.mk (Nat.le_of_ble_eq_true rfl) rfl (of_decide_eq_true rfl) ?_ ?_ <;> try simp only [go_sem, seval, reduceCtorEq])
  simp only [go_sem, seval, reduceCtorEq, h2]
  (refine ti_call (iElemOk_d (k := kk) (p := pp) (n := nn) (xs := x) hx.up) ?_ ?_ ?_; (focus (simp only [go_sem, seval, reduceCtorEq]; done)); (first | rfl | (focus (simp only [go_sem]; done))))
  cases h3 : elemOk ⟨kk, pp, nn⟩ x
  · have e2 : setT ⟨kk, pp, nn⟩ t is x = ⟨[], [], []⟩ := by simp [setT, setOk, h3]
    simp only [go_sem, seval, reduceCtorEq, h3, e2]
    refine FnEnd.wk (Wk.trans (Wk.nilS 2 0 1 _ _ _ rfl rfl) (Wk.trans (Wk.nilS 2 1 1 _ _ _ rfl rfl) (Wk.trans (Wk.nilS 2 2 1 _ _ _ rfl rfl) Wk.nogA))) ?_
    (refine FnEnd.mk (Nat.le_of_ble_eq_true rfl) rfl (of_decide_eq_true rfl) ?_ ?_ <;> try simp only [go_sem, seval, reduceCtorEq])
  have ho : setOk ⟨kk, pp, nn⟩ t is x = true := by simp [setOk, h1, h2, h3]
  obtain ⟨o, wd, e1, e2, e3, e4, e5, e6, _, _⟩ := elem_facts h1 h2
  obtain ⟨f1, f2, f3, f4, f5, f6⟩ := tensorOk_facts h1
  have hlx : x.length = wd := by have := elemOk_len h3; omega
  have hxd := h.x.len
  simp only [go_sem, seval, reduceCtorEq, h3]
  (refine ti_call (copyTensor_f h) ?_ ?_ ?_; (focus (simp only [go_sem, seval, reduceCtorEq]; done)); (first | rfl | (focus (simp only [go_sem]; done))))
  simp only [go_sem, seval, reduceCtorEq]
  (refine gi_call (offsetIn_d (ds := t.dims) (is := is) h.d.up hi.up (by simpa [idxB] using h2) f2.dim f3) ?_ ?_ ?_; (focus (simp only [go_sem, seval, reduceCtorEq]; done)); (first | rfl | (focus (simp only [go_sem]; done))))
  simp only [go_sem, seval, reduceCtorEq, e1]
  (refine gi_callv [3, 4, 5] (rawElemW_d (t := t) e2 ⟨e3, e4⟩ e6 (by omega) (by omega)) (of_decide_eq_true rfl) ?_ ?_ ?_ ?_ ?_ ?_; (simp only [go_sem, seval, reduceCtorEq]); (first | rfl | simp only [go_sem, seval, reduceCtorEq]); (simp only [go_sem, seval, reduceCtorEq, vwOk]); (simp only [go_sem, seval, reduceCtorEq, idsL, idsA, List.contains_cons, Nat.reduceBEq, Bool.or_true, Bool.true_or]); (first | rfl | simp only [go_sem, seval, reduceCtorEq]))
  have hst := setT_yes ho e1 e2
  have hmin : min x.length wd = wd := by omega
  have hmin2 : List.take wd x = x := List.take_of_length_le (by omega)
  have hwx : wd ≤ x.length := by omega
  simp (disch := omega) only [go_sem, seval, reduceCtorEq, hmin, hmin2, hst, hwx]
  refine ⟨by omega, ?_⟩
  have hraw : List.take (o * wd) t.data ++ x ++ List.drop (o * wd + wd) t.data = putE t.data (o * wd) x := by rw [putE, hlx]
  have hpl : (putE t.data (o * wd) x).length = t.data.length := putE_len (by omega)
  (refine FnEnd.mk (Nat.le_of_ble_eq_true rfl) rfl (of_decide_eq_true rfl) ?_ ?_ <;> try simp only [go_sem, seval, reduceCtorEq])
  all_goals simp only [hraw, hpl]
theorem sSetElem_d {kk pp nn : Int} {t : Ten} {is x : List Int} (a : I64 kk) (b : I64 pp) (c : I64 nn) (h : TSz 1048576 t) (hi : Sz 1048576 is) (hx : Sz 1048576 x) :
    Does Try.prog 39 [ringA kk pp nn, tenA t, .d (ints is), .d (ints x)] [] (ownT 0 (setT ⟨kk, pp, nn⟩ t is x)) (stoF (setT ⟨kk, pp, nn⟩ t is x)) := by
  (refine spec_of (by kernel_rfl) Try.func39 k_spec_SetElem (fnOk (Nat.le_of_ble_eq_true rfl) ?_); unfold C_spec_SetElem)
  (simp only [Nat.reduceSub, List.length_cons, List.length_nil, Nat.reduceAdd, ch_init1, ch_init2, ch_init3, ch_init4, ch_init5, ch_init6, ch_init7, ch_init8]; try simp only [ch_rep]); (simp only [go_sem, seval, reduceCtorEq, List.replicate])
  have hpos : tensorOk ⟨kk, pp, nn⟩ t.labels t.dims t.data = true → (offsetOf t.labels t.dims is < 0 ↔ idxB t.dims is = false) := by
    intro h1
    obtain ⟨f1, f2, f3, f4, f5, f6⟩ := tensorOk_facts h1
    by_cases h2 : idxOk t.dims is
    · have := offs_bd t.labels t.dims is f2 h2
      rw [offsetOf, if_pos ⟨by omega, h2⟩]
      simp only [idxB, h2, decide_true, Bool.true_eq_false, iff_false]
      omega
    · rw [offsetOf, if_neg (fun h => h2 h.2)]
      simp [idxB, h2]
  (refine ti_call (sOffsetOf_d h.up hi.up) ?_ ?_ ?_; (focus (simp only [go_sem, seval, reduceCtorEq]; done)); (first | rfl | (focus (simp only [go_sem]; done))))
  by_cases h0 : offsetOf t.labels t.dims is < 0
  · have e2 : setT ⟨kk, pp, nn⟩ t is x = ⟨[], [], []⟩ := by
      rw [setT, if_neg]
      intro ho
      simp only [setOk, Bool.and_eq_true] at ho
      rw [(hpos ho.1.1).1 h0] at ho
      exact absurd ho.1.2 (by simp)
    simp only [go_sem, seval, reduceCtorEq, h0, e2]
    refine FnEnd.wk (Wk.trans (Wk.nilS 2 0 1 _ _ _ rfl rfl) (Wk.trans (Wk.nilS 2 1 1 _ _ _ rfl rfl) (Wk.trans (Wk.nilS 2 2 1 _ _ _ rfl rfl) Wk.nogA))) ?_
    (refine FnEnd.mk (Nat.le_of_ble_eq_true rfl) rfl (of_decide_eq_true rfl) ?_ ?_ <;> try simp only [go_sem, seval, reduceCtorEq])
  simp only [go_sem, seval, reduceCtorEq, h0]
  (refine ti_call (sTensorOk_d (t := t) a b c h.up) ?_ ?_ ?_; (focus (simp only [go_sem, seval, reduceCtorEq]; done)); (first | rfl | (focus (simp only [go_sem]; done))))
  cases h1 : tensorOk ⟨kk, pp, nn⟩ t.labels t.dims t.data
  · have e2 : setT ⟨kk, pp, nn⟩ t is x = ⟨[], [], []⟩ := by simp [setT, setOk, h1]
    simp only [go_sem, seval, reduceCtorEq, h1, e2]
    refine FnEnd.wk (Wk.trans (Wk.nilS 2 0 1 _ _ _ rfl rfl) (Wk.trans (Wk.nilS 2 1 1 _ _ _ rfl rfl) (Wk.trans (Wk.nilS 2 2 1 _ _ _ rfl rfl) Wk.nogA))) ?_
    (refine FnEnd.mk (Nat.le_of_ble_eq_true rfl) rfl (of_decide_eq_true rfl) ?_ ?_ <;> try simp only [go_sem, seval, reduceCtorEq])
  simp only [go_sem, seval, reduceCtorEq, h1]
  have h2 : idxB t.dims is = true := by
    cases h2 : idxB t.dims is
    · exact absurd ((hpos h1).2 h2) h0
    · rfl
  (refine ti_call (sElemOk_d (k := kk) (p := pp) (n := nn) (xs := x) hx.up) ?_ ?_ ?_; (focus (simp only [go_sem, seval, reduceCtorEq]; done)); (first | rfl | (focus (simp only [go_sem]; done))))
  cases h3 : elemOk ⟨kk, pp, nn⟩ x
  · have e2 : setT ⟨kk, pp, nn⟩ t is x = ⟨[], [], []⟩ := by simp [setT, setOk, h3]
    simp only [go_sem, seval, reduceCtorEq, h3, e2]
    refine FnEnd.wk (Wk.trans (Wk.nilS 2 0 1 _ _ _ rfl rfl) (Wk.trans (Wk.nilS 2 1 1 _ _ _ rfl rfl) (Wk.trans (Wk.nilS 2 2 1 _ _ _ rfl rfl) Wk.nogA))) ?_
    (refine FnEnd.mk (Nat.le_of_ble_eq_true rfl) rfl (of_decide_eq_true rfl) ?_ ?_ <;> try simp only [go_sem, seval, reduceCtorEq])
  have ho : setOk ⟨kk, pp, nn⟩ t is x = true := by simp [setOk, h1, h2, h3]
  obtain ⟨o, wd, e1, e2, e3, e4, e5, e6, _, _⟩ := elem_facts h1 h2
  obtain ⟨f1, f2, f3, f4, f5, f6⟩ := tensorOk_facts h1
  have hlx : x.length = wd := by have := elemOk_len h3; omega
  have hxd := h.x.len
  have hst := setT_yes ho e1 e2
  have e0 : offsetOf t.labels t.dims is = o := by rw [offsetOf, if_pos ⟨by omega, by simpa [idxB] using h2⟩, e1]
  simp only [go_sem, seval, reduceCtorEq, h3]
  (refine ti_call (l05Copy_f h) ?_ ?_ ?_; (focus (simp only [go_sem, seval, reduceCtorEq]; done)); (first | rfl | (focus (simp only [go_sem]; done))))
  simp only [go_sem, seval, reduceCtorEq, e0]
  have hpl : (putE t.data (o * wd) x).length = t.data.length := putE_len (by omega)
  (refine ti_callw [3, 4, 5] false (l05Put_d (t := t) e2 hlx ⟨e3, e4⟩ e6 (by omega) (by omega)) (of_decide_eq_true rfl) ?_ ?_ ?_ ?_ (of_decide_eq_true rfl) ?_; (focus (simp only [go_sem, seval, reduceCtorEq, hpl]; done)); (focus (simp only [go_sem, seval, reduceCtorEq]; done)); (focus (simp only [go_sem, seval, reduceCtorEq, hpl]; done)); (focus (simp only [go_sem, seval, reduceCtorEq]; done)))
  simp only [go_sem, seval, reduceCtorEq, hst]
  (refine FnEnd.mk (Nat.le_of_ble_eq_true rfl) rfl (of_decide_eq_true rfl) ?_ ?_ <;> try simp only [go_sem, seval, reduceCtorEq])
  rw [hpl]
end Go.Proofs.Ytmgifmgdfldheaa
