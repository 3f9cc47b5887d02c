/-
  Contracts: a label split. No condition.
-/
import Derived.Test.YtlijfhfhonalgaaFusA
import Derived.Test.YtlijfhfhonalgaaConM
namespace Go.Proofs.Ytlijfhfhonalgaa
open Go.RowKit Go.Lift Plain
set_option linter.unusedSimpArgs false
set_option linter.unusedVariables false
set_option maxRecDepth 100000

theorem l05Axes_d {ls ds : List Int} (hl : Sz 1099511627776 ls) (hd : Sz 1099511627776 ds) : Does Try.prog 36 [.d (ints ls), .d (ints ds)] [] (.d (.bool (axB ls ds))) [] :=
  Does.of_calls (rv_bool _) fun w γ φ vals hv => by
    obtain ⟨_, _, rfl, h0, h1⟩ := rel2 hv
    obtain ⟨A, c, rfl, o⟩ := rel_ints h0 hl
    obtain ⟨A', c', rfl, o'⟩ := rel_ints h1 hd
    exact (l05Axes_any A _ c A' _ c' ls ds _ w o.at_ o'.at_ o.len o'.len o.cap).mono fun e w' ⟨h, h'⟩ => ⟨h, h' ▸ Below.refl _ _⟩
theorem dv_nil' : dv [] = [] := rfl
theorem dv_one (x : Int) : dv [x] = [.int x] := rfl
theorem wol_one (ls : List Int) (x : Int) : ls.filter (· != x) = wol ls [x] := List.filter_congr fun y _ => by
  rw [Bool.eq_iff_iff]
  simp [has]
def spL (t : Ten) (x : Int) (L : List Int) : List Int := wol t.labels [x] ++ L
def spD (t : Ten) (x : Int) (D : List Int) : List Int := permD t (wol t.labels [x]) ++ D
def spB1 (r : Rg) (t : Ten) (x : Int) (L D : List Int) : Bool := tensorOk r t.labels t.dims t.data && decide (x ∈ t.labels) && decide (1 ≤ L.length) && decide (tsize L D = dimAt t x)
def splitB (r : Rg) (t : Ten) (x : Int) (L D : List Int) : Bool := spB1 r t x L D && decide (tsize (spL t x L) (spD t x D) ≠ -1)
def splitT (r : Rg) (t : Ten) (x : Int) (L D : List Int) : Ten := if splitB r t x L D = true then ⟨spL t x L, spD t x D, (permR (width r).toNat t (wol t.labels [x] ++ [x])).data⟩ else ⟨[], [], []⟩
structure SpOk (r : Rg) (t : Ten) (x : Int) (L D : List Int) (wd n : Nat) : Prop where
  w : width r = wd
  p : PermOk t (wol t.labels [x] ++ [x]) wd n
  ok : tensorOk r (spL t x L) (spD t x D) (permR wd t (wol t.labels [x] ++ [x])).data = decide (tsize (spL t x L) (spD t x D) ≠ -1)
  len : (wol t.labels [x]).length ≤ 12
  ax : axOk L D
  dle : ((permR wd t (wol t.labels [x] ++ [x])).data.length) ≤ 24576
theorem spOk {r : Rg} {t : Ten} {x : Int} {L D : List Int} (h : spB1 r t x L D = true) : ∃ wd n : Nat, SpOk r t x L D wd n := by
  simp only [spB1, Bool.and_eq_true, decide_eq_true_eq] at h
  obtain ⟨⟨⟨h1, h2⟩, h3⟩, h4⟩ := h
  have hd : distB t.labels [x] = true := decide_eq_true fun k hk => by
    obtain rfl : k = 0 := by simpa using hk
    exact ⟨by simpa using h2, by simp⟩
  have hf : fuB1 r t [x] = true := by simp [fuB1, h1, hd]
  obtain ⟨wd, n, hF⟩ := fuOk (x := 0) hf
  obtain ⟨_, _, e1, e2, e3, e4, e5, e6, e7, e8, e9, e10⟩ := ten_facts h1
  have hdx := dimAt_bd e10 h2
  rcases tsize_cases L D with h5 | ⟨h5, h6, h7, h8⟩
  · omega
  refine ⟨wd, n, hF.w, hF.p, tenOk_of e9 ?_ (permR_fits (n := n) e8), hF.len.1, h5, hF.dle⟩
  have hdl := permR_dlen hF.p
  rw [hdl, hF.w, permD_app, prodI_append, spD, prodI_append]
  have : prodI (permD t [x]) = prodI D := by
    rw [← h7, h4]
    simp [permD, prodI_one]
  rw [this]
theorem splitT_yes {r : Rg} {t : Ten} {x : Int} {L D : List Int} {wd n : Nat} (h : SpOk r t x L D wd n) (ho : splitB r t x L D = true) : splitT r t x L D = ⟨spL t x L, spD t x D, (permR wd t (wol t.labels [x] ++ [x])).data⟩ := by
  rw [splitT, if_pos ho, h.w]; rfl
theorem spF_sz {r : Rg} {t : Ten} {x : Int} {L D : List Int} {wd n : Nat} (ht : TSz 1048576 t) (hL : Sz 1048576 L) (h : SpOk r t x L D wd n) : TSz 1048576 ⟨spL t x L, spD t x D, (permR wd t (wol t.labels [x] ++ [x])).data⟩ := by
  have hl := h.len
  have ha := h.ax
  have h12 := ha.1
  have h12' := ha.2.1
  refine ⟨⟨?_, fun y hy => ?_⟩, ⟨?_, fun y hy => ?_⟩, ⟨?_, fun y hy => ht.x.wf y (gath_mem y hy)⟩⟩
  · simp [spL]; omega
  · simp only [spL, List.mem_append] at hy
    rcases hy with hy | hy
    · exact ht.l.wf y (wol_mem.1 hy).1
    · exact hL.wf y hy
  · simp [spD, permD_len]; omega
  · simp only [spD, List.mem_append] at hy
    rcases hy with hy | hy
    · have := h.p.dbd y (by rw [permD_app]; exact List.mem_append.2 (.inl hy))
      exact ⟨by omega, by omega⟩
    · have := ha.dim y hy
      exact ⟨by omega, by omega⟩
  · have := h.dle
    show (permR wd t (wol t.labels [x] ++ [x])).data.length ≤ _
    omega
theorem splitT_sz {r : Rg} {t : Ten} {x : Int} {L D : List Int} (ht : TSz 1048576 t) (hL : Sz 1048576 L) : TSz 1048576 (splitT r t x L D) := by
  by_cases ho : splitB r t x L D = true
  · have h1 : spB1 r t x L D = true := by simp only [splitB, Bool.and_eq_true] at ho; exact ho.1
    obtain ⟨wd, n, h⟩ := spOk h1
    rw [splitT_yes h ho]
    exact spF_sz ht hL h
  · rw [splitT, if_neg ho]
    exact ⟨⟨by simp, by simp⟩, ⟨by simp, by simp⟩, ⟨by simp, by simp⟩⟩
set_option maxHeartbeats 800000 in
theorem iSplitLabel_d {kk pp nn : Int} {t : Ten} {x : Int} {L D : List Int} (a : I64 kk) (b : I64 pp) (c : I64 nn) (h : TSz 1048576 t) (hx : I64 x) (hL : Sz 1048576 L) (hD : Sz 1048576 D) :
    Does Try.prog 12 [ringA kk pp nn, tenA t, .d (.int x), .d (ints L), .d (ints D)] [] (.tup [ownT 0 (splitT ⟨kk, pp, nn⟩ t x L D), .d (.bool (splitB ⟨kk, pp, nn⟩ t x L D))]) (stoF (splitT ⟨kk, pp, nn⟩ t x L D)) := by
  have hll := hL.len
  have hDl := hD.len
  have htl := h.l.len
  have no : spB1 ⟨kk, pp, nn⟩ t x L D = false → splitB ⟨kk, pp, nn⟩ t x L D = false ∧ splitT ⟨kk, pp, nn⟩ t x L D = ⟨[], [], []⟩ := fun e => by
    have e1 : splitB ⟨kk, pp, nn⟩ t x L D = false := by simp [splitB, e]
    exact ⟨e1, by simp [splitT, e1]⟩
  (refine spec_ofK (by kernel_rfl) Try.func12 k_impl_SplitLabel (fnOk (Nat.le_of_ble_eq_true rfl) ?_); unfold C_impl_SplitLabel)
  (simp only [Nat.reduceSub, List.length_cons, List.length_nil, Nat.reduceAdd, ch_init1, ch_init2, ch_init3, ch_init4, ch_init5, ch_init6, ch_init7, ch_init8]; try simp only [ch_rep]); (simp only [go_sem, seval, reduceCtorEq, List.replicate])
  (refine ti_call (iTensorOk_d (t := t) a b c h.up) ?_ ?_ ?_; (focus (simp only [go_sem, seval, reduceCtorEq]; done)); (first | rfl | (focus (simp only [go_sem]; done))))
  cases h1 : tensorOk ⟨kk, pp, nn⟩ t.labels t.dims t.data
  · have e0 := no (by simp [spB1, h1])
    have e1 := e0.1
    have e2 := e0.2
    simp only [go_sem, seval, reduceCtorEq, h1, e1, e2]
    refine FnEnd.wk (Wk.trans (Wk.nilS 2 0 1 _ _ _ rfl rfl) (Wk.trans (Wk.nilS 2 1 1 _ _ _ rfl rfl) (Wk.trans (Wk.nilS 2 2 1 _ _ _ rfl rfl) Wk.nogA))) ?_
    (refine FnEnd.mk (Nat.le_of_ble_eq_true rfl) rfl (of_decide_eq_true rfl) ?_ ?_ <;> try simp only [go_sem, seval, reduceCtorEq])
  have hax := (tensorOk_facts h1).2.1
  simp only [go_sem, seval, reduceCtorEq, h1]
  (refine ti_call (axisOf_d (t := t) (x := x) h.l.up.len) ?_ ?_ ?_; (focus (simp only [go_sem, seval, reduceCtorEq]; done)); (first | rfl | (focus (simp only [go_sem]; done))))
  by_cases hm : x ∈ t.labels
  rotate_left
  · have e0 := no (by simp [spB1, hm])
    have e1 := e0.1
    have e2 := e0.2
    have c2 : place t.labels x < 0 := place_neg.2 hm
    simp only [go_sem, seval, reduceCtorEq, c2, e1, e2]
    refine FnEnd.wk (Wk.trans (Wk.nilS 2 0 1 _ _ _ rfl rfl) (Wk.trans (Wk.nilS 2 1 1 _ _ _ rfl rfl) (Wk.trans (Wk.nilS 2 2 1 _ _ _ rfl rfl) Wk.nogA))) ?_
    (refine FnEnd.mk (Nat.le_of_ble_eq_true rfl) rfl (of_decide_eq_true rfl) ?_ ?_ <;> try simp only [go_sem, seval, reduceCtorEq])
  have c2 : ¬ place t.labels x < 0 := fun e => place_neg.1 e hm
  simp only [go_sem, seval, reduceCtorEq, c2]
  by_cases h0 : L.length = 0
  · have e0 := no (by simp [spB1, h0])
    have e1 := e0.1
    have e2 := e0.2
    have c1 : ((L.length : Int) == 0) = true := by simp [h0]
    simp only [go_sem, seval, reduceCtorEq, c1, e1, e2]
    refine FnEnd.wk (Wk.trans (Wk.nilS 2 0 1 _ _ _ rfl rfl) (Wk.trans (Wk.nilS 2 1 1 _ _ _ rfl rfl) (Wk.trans (Wk.nilS 2 2 1 _ _ _ rfl rfl) Wk.nogA))) ?_
    (refine FnEnd.mk (Nat.le_of_ble_eq_true rfl) rfl (of_decide_eq_true rfl) ?_ ?_ <;> try simp only [go_sem, seval, reduceCtorEq])
  have c1 : ((L.length : Int) == 0) = false := by simp [h0]
  obtain ⟨j, g1, g2, g3, g4⟩ := dimAt_get hax.len hm
  have c3 : (j : Int) < t.dims.length := by omega
  simp only [go_sem, seval, reduceCtorEq, c1]
  (refine gi_call (iTensorSize_d (t := ⟨L, D, []⟩) ⟨hL.up, hD.up, ⟨by simp, by simp⟩⟩) ?_ ?_ ?_; (focus (simp only [go_sem, seval, reduceCtorEq, dv_nil']; done)); (first | rfl | (focus (simp only [go_sem]; done))))
  simp only [go_sem, seval, reduceCtorEq]
  (refine gi_call (axisOf_d (t := t) (x := x) h.l.up.len) ?_ ?_ ?_; (focus (simp only [go_sem, seval, reduceCtorEq]; done)); (first | rfl | (focus (simp only [go_sem]; done))))
  simp (disch := omega) only [go_sem, seval, reduceCtorEq, g3, c3, g4]
  by_cases h3 : tsize L D = dimAt t x
  rotate_left
  · have e0 := no (by simp [spB1, h3])
    have e1 := e0.1
    have e2 := e0.2
    have c4 : (tsize L D != dimAt t x) = true := by simpa using h3
    simp only [go_sem, seval, reduceCtorEq, c4, e1, e2]
    refine FnEnd.wk (Wk.trans (Wk.nilS 2 0 1 _ _ _ rfl rfl) (Wk.trans (Wk.nilS 2 1 1 _ _ _ rfl rfl) (Wk.trans (Wk.nilS 2 2 1 _ _ _ rfl rfl) Wk.nogA))) ?_
    (refine FnEnd.mk (Nat.le_of_ble_eq_true rfl) rfl (of_decide_eq_true rfl) ?_ ?_ <;> try simp only [go_sem, seval, reduceCtorEq])
  have c4 : (tsize L D != dimAt t x) = false := by simpa using h3
  have ho : spB1 ⟨kk, pp, nn⟩ t x L D = true := by simp only [spB1, h1, hm, h3, Bool.true_and, Bool.and_true, decide_true, decide_eq_true_eq]; omega
  obtain ⟨wd, n, hF⟩ := spOk ho
  have hl2 := hF.len
  simp only [go_sem, seval, reduceCtorEq, c4]
  (refine ti_call (withoutInt_d (xs := t.labels) (x := x) h.l.up.len) ?_ ?_ ?_; (focus (simp only [go_sem, seval, reduceCtorEq]; done)); (first | rfl | (focus (simp only [go_sem]; done))))
  have hwl : Sz 1048576 (wol t.labels [x]) := ⟨by omega, fun y hy => h.l.wf y (wol_mem.1 hy).1⟩
  simp (disch := omega) only [go_sem, seval, reduceCtorEq, wol_one]
  (refine gi_call (copyInts_d (xs := wol t.labels [x]) hwl.up.len) ?_ ?_ ?_; (focus (simp only [go_sem, seval, reduceCtorEq]; done)); (first | rfl | (focus (simp only [go_sem]; done))))
  have hsL : Sz 1048576 (wol t.labels [x] ++ [x]) := ⟨by rw [List.length_append]; simp; omega, fun y hy => by
    rcases List.mem_append.1 hy with hy | hy
    · exact hwl.wf y hy
    · simp only [List.mem_singleton] at hy; rw [hy]; exact hx⟩
  simp (disch := omega) only [go_sem, seval, reduceCtorEq]
  refine ⟨by omega, ?_⟩
  (refine gi_call (rawPermute_d hF.w hF.p h hsL) ?_ ?_ ?_; (focus (simp only [go_sem, seval, reduceCtorEq, List.length_append, List.length_cons, List.length_nil, take_snoc]; done)); (first | rfl | (focus (simp only [go_sem]; done))))
  have hax2 := hF.ax
  have hL12 := hax2.1
  have hDl2 := hax2.2.1
  have e1 : (permR wd t (wol t.labels [x] ++ [x])).dims = permD t (wol t.labels [x]) ++ permD t [x] := permD_app ..
  have kA := permD_len t (wol t.labels [x])
  have kB : (permD t [x]).length = 1 := permD_len t [x]
  have kl : (permD t (wol t.labels [x]) ++ permD t [x]).length = (wol t.labels [x]).length + 1 := by rw [List.length_append, kA, kB]
  have kT : (permD t (wol t.labels [x]) ++ permD t [x]).take (wol t.labels [x]).length = permD t (wol t.labels [x]) := by rw [← kA]; simp
  simp (disch := omega) only [go_sem, seval, reduceCtorEq, e1]
  refine ⟨by omega, by omega, ?_⟩
  simp only [true_or, Int.sub_zero, Int.toNat_natCast, go_sem, seval, reduceCtorEq]
  (refine gi_call (copyInts_d (xs := permD t (wol t.labels [x])) (by omega)) ?_ ?_ ?_; (focus (simp only [go_sem, seval, reduceCtorEq, kT, kA]; done)); (first | rfl | (focus (simp only [go_sem]; done))))
  simp (disch := omega) only [go_sem, seval, reduceCtorEq]
  refine ⟨by omega, ?_⟩
  have hsz := spF_sz h hL hF
  have tkL : ∀ A B : List Int, List.take (A.length + B.length) (A ++ B) = A ++ B := fun A B => List.take_of_length_le (by simp)
  (refine ti_call (iTensorOk_d (t := ⟨spL t x L, spD t x D, (permR wd t (wol t.labels [x] ++ [x])).data⟩) a b c hsz.up) ?_ ?_ ?_; (focus (simp only [go_sem, seval, reduceCtorEq, spL, spD, List.length_append, tkL]; done)); (first | rfl | (focus (simp only [go_sem]; done))))
  have hok := hF.ok
  by_cases h4 : tsize (spL t x L) (spD t x D) = -1
  · have e : splitB ⟨kk, pp, nn⟩ t x L D = false := by simp [splitB, h4]
    have e' : splitT ⟨kk, pp, nn⟩ t x L D = ⟨[], [], []⟩ := by simp [splitT, e]
    have hok' : tensorOk ⟨kk, pp, nn⟩ (spL t x L) (spD t x D) (permR wd t (wol t.labels [x] ++ [x])).data = false := by rw [hok]; simp [h4]
    simp only [go_sem, seval, reduceCtorEq, hok', e, e']
    refine FnEnd.wk (Wk.trans (Wk.nilS 2 0 1 _ _ _ rfl rfl) (Wk.trans (Wk.nilS 2 1 1 _ _ _ rfl rfl) (Wk.trans (Wk.nilS 2 2 1 _ _ _ rfl rfl) Wk.nogA))) ?_
    (refine FnEnd.mk (Nat.le_of_ble_eq_true rfl) rfl (of_decide_eq_true rfl) ?_ ?_ <;> try simp only [go_sem, seval, reduceCtorEq])
  have e : splitB ⟨kk, pp, nn⟩ t x L D = true := by simp [splitB, ho, h4]
  have e' := splitT_yes hF e
  have hok' : tensorOk ⟨kk, pp, nn⟩ (spL t x L) (spD t x D) (permR wd t (wol t.labels [x] ++ [x])).data = true := by rw [hok]; simp [h4]
  simp only [go_sem, seval, reduceCtorEq, hok', e, e']
  refine FnEnd.wk Wk.nogA ?_
  have e3 : (spL t x L).length = (wol t.labels [x]).length + L.length := by simp [spL]
  have e4 : (spD t x D).length = (permD t (wol t.labels [x])).length + D.length := by simp [spD]
  simp only [go_sem, seval, reduceCtorEq, e3, e4]
  (refine FnEnd.mk (Nat.le_of_ble_eq_true rfl) rfl (of_decide_eq_true rfl) ?_ ?_ <;> try simp only [go_sem, seval, reduceCtorEq])
  rfl
set_option maxHeartbeats 800000 in
theorem sSplitLabel_d {kk pp nn : Int} {t : Ten} {x : Int} {L D : List Int} (a : I64 kk) (b : I64 pp) (c : I64 nn) (h : TSz 1048576 t) (hx : I64 x) (hL : Sz 1048576 L) (hD : Sz 1048576 D) :
    Does Try.prog 8 [ringA kk pp nn, tenA t, .d (.int x), .d (ints L), .d (ints D)] [] (.tup [ownT 0 (splitT ⟨kk, pp, nn⟩ t x L D), .d (.bool (splitB ⟨kk, pp, nn⟩ t x L D))]) (stoF (splitT ⟨kk, pp, nn⟩ t x L D)) := by
  have hll := hL.len
  have hDl := hD.len
  have htl := h.l.len
  have no : spB1 ⟨kk, pp, nn⟩ t x L D = false → splitB ⟨kk, pp, nn⟩ t x L D = false ∧ splitT ⟨kk, pp, nn⟩ t x L D = ⟨[], [], []⟩ := fun e => by
    have e1 : splitB ⟨kk, pp, nn⟩ t x L D = false := by simp [splitB, e]
    exact ⟨e1, by simp [splitT, e1]⟩
  (refine spec_ofK (by kernel_rfl) Try.func8 k_spec_SplitLabel (fnOk (Nat.le_of_ble_eq_true rfl) ?_); unfold C_spec_SplitLabel)
  (simp only [Nat.reduceSub, List.length_cons, List.length_nil, Nat.reduceAdd, ch_init1, ch_init2, ch_init3, ch_init4, ch_init5, ch_init6, ch_init7, ch_init8]; try simp only [ch_rep]); (simp only [go_sem, seval, reduceCtorEq, List.replicate])
  (refine ti_call (l05Find_d (xs := t.labels) (x := x) h.l.up.len) ?_ ?_ ?_; (focus (simp only [go_sem, seval, reduceCtorEq]; done)); (first | rfl | (focus (simp only [go_sem]; done))))
  simp only [go_sem, seval, reduceCtorEq]
  (refine gi_call (sTensorOk_d (t := t) a b c h.up) ?_ ?_ ?_; (focus (simp only [go_sem, seval, reduceCtorEq]; done)); (first | rfl | (focus (simp only [go_sem]; done))))
  cases h1 : tensorOk ⟨kk, pp, nn⟩ t.labels t.dims t.data
  · have e0 := no (by simp [spB1, h1])
    have e1 := e0.1
    have e2 := e0.2
    simp only [go_sem, seval, reduceCtorEq, h1, e1, e2]
    refine FnEnd.wk (Wk.trans (Wk.nilS 2 0 1 _ _ _ rfl rfl) (Wk.trans (Wk.nilS 2 1 1 _ _ _ rfl rfl) (Wk.trans (Wk.nilS 2 2 1 _ _ _ rfl rfl) Wk.nogA))) ?_
    (refine FnEnd.mk (Nat.le_of_ble_eq_true rfl) rfl (of_decide_eq_true rfl) ?_ ?_ <;> try simp only [go_sem, seval, reduceCtorEq])
  have hax := (tensorOk_facts h1).2.1
  simp only [go_sem, seval, reduceCtorEq, h1]
  by_cases hm : x ∈ t.labels
  rotate_left
  · have e0 := no (by simp [spB1, hm])
    have e1 := e0.1
    have e2 := e0.2
    have c2 : place t.labels x < 0 := place_neg.2 hm
    simp only [go_sem, seval, reduceCtorEq, c2, e1, e2]
    refine FnEnd.wk (Wk.trans (Wk.nilS 2 0 1 _ _ _ rfl rfl) (Wk.trans (Wk.nilS 2 1 1 _ _ _ rfl rfl) (Wk.trans (Wk.nilS 2 2 1 _ _ _ rfl rfl) Wk.nogA))) ?_
    (refine FnEnd.mk (Nat.le_of_ble_eq_true rfl) rfl (of_decide_eq_true rfl) ?_ ?_ <;> try simp only [go_sem, seval, reduceCtorEq])
  have c2 : ¬ place t.labels x < 0 := fun e => place_neg.1 e hm
  simp only [go_sem, seval, reduceCtorEq, c2]
  by_cases h0 : L.length = 0
  · have e0 := no (by simp [spB1, h0])
    have e1 := e0.1
    have e2 := e0.2
    have c1 : (L.length : Int) < 1 := by omega
    simp only [go_sem, seval, reduceCtorEq, c1, e1, e2]
    refine FnEnd.wk (Wk.trans (Wk.nilS 2 0 1 _ _ _ rfl rfl) (Wk.trans (Wk.nilS 2 1 1 _ _ _ rfl rfl) (Wk.trans (Wk.nilS 2 2 1 _ _ _ rfl rfl) Wk.nogA))) ?_
    (refine FnEnd.mk (Nat.le_of_ble_eq_true rfl) rfl (of_decide_eq_true rfl) ?_ ?_ <;> try simp only [go_sem, seval, reduceCtorEq])
  have c1 : ¬ (L.length : Int) < 1 := by omega
  simp only [go_sem, seval, reduceCtorEq, c1]
  (refine gi_call (l05Axes_d (ls := L) (ds := D) hL.up hD.up) ?_ ?_ ?_; (focus (simp only [go_sem, seval, reduceCtorEq]; done)); (first | rfl | (focus (simp only [go_sem]; done))))
  by_cases hx5 : axOk L D
  rotate_left
  · have hts : tsize L D = -1 := by
      unfold tsize
      rw [if_neg fun h => hx5 h.1]
    have hdx := dimAt_bd hax hm
    have e0 := no (by
      have : ¬ (-1 : Int) = dimAt t x := by omega
      simp [spB1, hts, this])
    have e1 := e0.1
    have e2 := e0.2
    have c5 : axB L D = false := decide_eq_false hx5
    simp only [go_sem, seval, reduceCtorEq, c5, e1, e2]
    refine FnEnd.wk (Wk.trans (Wk.nilS 2 0 1 _ _ _ rfl rfl) (Wk.trans (Wk.nilS 2 1 1 _ _ _ rfl rfl) (Wk.trans (Wk.nilS 2 2 1 _ _ _ rfl rfl) Wk.nogA))) ?_
    (refine FnEnd.mk (Nat.le_of_ble_eq_true rfl) rfl (of_decide_eq_true rfl) ?_ ?_ <;> try simp only [go_sem, seval, reduceCtorEq])
  have c5 : axB L D = true := decide_eq_true hx5
  obtain ⟨j, g1, g2, g3, g4⟩ := dimAt_get hax.len hm
  have c3 : (j : Int) < t.dims.length := by omega
  have hDd := hx5.dim
  simp only [go_sem, seval, reduceCtorEq, c5]
  (refine gi_call (l05Product_d (ds := D) (lim := 4096) hD.up.len (fun d hd => ⟨(hDd d hd).1, by have := (hDd d hd).2; omega⟩) (by omega)) ?_ ?_ ?_; (focus (simp only [go_sem, seval, reduceCtorEq]; done)); (first | rfl | (focus (simp only [go_sem]; done))))
  simp (disch := omega) only [go_sem, seval, reduceCtorEq, g3, c3, g4]
  have hdx := dimAt_bd hax hm
  have hts : tsize L D = if prodI D ≤ 4096 then prodI D else -1 := by unfold tsize; simp [hx5]
  by_cases h3 : tsize L D = dimAt t x
  rotate_left
  · have e0 := no (by simp [spB1, h3])
    have e1 := e0.1
    have e2 := e0.2
    have c4 : (min (prodI D) 4097 != dimAt t x) = true := by
      simp only [bne_iff_ne, ne_eq]
      intro e
      apply h3
      rw [hts]
      split <;> omega
    simp only [go_sem, seval, reduceCtorEq, c4, e1, e2]
    refine FnEnd.wk (Wk.trans (Wk.nilS 2 0 1 _ _ _ rfl rfl) (Wk.trans (Wk.nilS 2 1 1 _ _ _ rfl rfl) (Wk.trans (Wk.nilS 2 2 1 _ _ _ rfl rfl) Wk.nogA))) ?_
    (refine FnEnd.mk (Nat.le_of_ble_eq_true rfl) rfl (of_decide_eq_true rfl) ?_ ?_ <;> try simp only [go_sem, seval, reduceCtorEq])
  have c4 : (min (prodI D) 4097 != dimAt t x) = false := by
    rw [hts] at h3
    simp only [bne_eq_false_iff_eq]
    split at h3 <;> omega
  have ho : spB1 ⟨kk, pp, nn⟩ t x L D = true := by simp only [spB1, h1, hm, h3, Bool.true_and, Bool.and_true, decide_true, decide_eq_true_eq]; omega
  obtain ⟨wd, n, hF⟩ := spOk ho
  have hl2 := hF.len
  simp only [go_sem, seval, reduceCtorEq, c4]
  (refine ti_call (l10Rest_d (t := t) (L := [x]) h.l.len (by simp)) ?_ ?_ ?_; (focus (simp only [go_sem, seval, reduceCtorEq, dv_one]; done)); (first | rfl | (focus (simp only [go_sem]; done))))
  have hwl : Sz 1048576 (wol t.labels [x]) := ⟨by omega, fun y hy => h.l.wf y (wol_mem.1 hy).1⟩
  simp (disch := omega) only [go_sem, seval, reduceCtorEq]
  (refine gi_call (l05Ints_d (xs := wol t.labels [x]) hwl.up.len) ?_ ?_ ?_; (focus (simp only [go_sem, seval, reduceCtorEq]; done)); (first | rfl | (focus (simp only [go_sem]; done))))
  have hsL : Sz 1048576 (wol t.labels [x] ++ [x]) := ⟨by rw [List.length_append]; simp; omega, fun y hy => by
    rcases List.mem_append.1 hy with hy | hy
    · exact hwl.wf y hy
    · simp only [List.mem_singleton] at hy; rw [hy]; exact hx⟩
  simp (disch := omega) only [go_sem, seval, reduceCtorEq]
  refine ⟨by omega, ?_⟩
  (refine gi_call (l06Permute_d hF.w hF.p h hsL) ?_ ?_ ?_; (focus (simp only [go_sem, seval, reduceCtorEq, List.length_append, List.length_cons, List.length_nil, take_snoc]; done)); (first | rfl | (focus (simp only [go_sem]; done))))
  have hax2 := hF.ax
  have hL12 := hax2.1
  have hDl2 := hax2.2.1
  have e1 : (permR wd t (wol t.labels [x] ++ [x])).dims = permD t (wol t.labels [x]) ++ permD t [x] := permD_app ..
  have kA := permD_len t (wol t.labels [x])
  have kB : (permD t [x]).length = 1 := permD_len t [x]
  have kl : (permD t (wol t.labels [x]) ++ permD t [x]).length = (wol t.labels [x]).length + 1 := by rw [List.length_append, kA, kB]
  have kI : ((permD t (wol t.labels [x]) ++ permD t [x]).length : Int) - 1 = (wol t.labels [x]).length := by omega
  have kT : (permD t (wol t.labels [x]) ++ permD t [x]).take (wol t.labels [x]).length = permD t (wol t.labels [x]) := by rw [← kA]; simp
  simp (disch := omega) only [go_sem, seval, reduceCtorEq, e1, kI]
  refine ⟨by omega, by omega, ?_⟩
  simp only [true_or, Int.sub_zero, Int.toNat_natCast, go_sem, seval, reduceCtorEq]
  (refine ti_call (l05Ints_d (xs := permD t (wol t.labels [x])) (by omega)) ?_ ?_ ?_; (focus (simp only [go_sem, seval, reduceCtorEq, kT, kA]; done)); (first | rfl | (focus (simp only [go_sem]; done))))
  simp (disch := omega) only [go_sem, seval, reduceCtorEq]
  refine ⟨by omega, ?_⟩
  have hsz := spF_sz h hL hF
  have tkL : ∀ A B : List Int, List.take (A.length + B.length) (A ++ B) = A ++ B := fun A B => List.take_of_length_le (by simp)
  (refine ti_call (sTensorSize_d (t := ⟨spL t x L, spD t x D, (permR wd t (wol t.labels [x] ++ [x])).data⟩) hsz.up) ?_ ?_ ?_; (focus (simp only [go_sem, seval, reduceCtorEq, spL, spD, List.length_append, tkL]; done)); (first | rfl | (focus (simp only [go_sem]; done))))
  by_cases h4 : tsize (spL t x L) (spD t x D) = -1
  · have e : splitB ⟨kk, pp, nn⟩ t x L D = false := by simp [splitB, h4]
    have e' : splitT ⟨kk, pp, nn⟩ t x L D = ⟨[], [], []⟩ := by simp [splitT, e]
    have hok' : tsize (spL t x L) (spD t x D) < 0 := tsize_neg.2 h4
    simp only [go_sem, seval, reduceCtorEq, hok', e, e']
    refine FnEnd.wk (Wk.trans (Wk.nilS 2 0 1 _ _ _ rfl rfl) (Wk.trans (Wk.nilS 2 1 1 _ _ _ rfl rfl) (Wk.trans (Wk.nilS 2 2 1 _ _ _ rfl rfl) Wk.nogA))) ?_
    (refine FnEnd.mk (Nat.le_of_ble_eq_true rfl) rfl (of_decide_eq_true rfl) ?_ ?_ <;> try simp only [go_sem, seval, reduceCtorEq])
  have e : splitB ⟨kk, pp, nn⟩ t x L D = true := by simp [splitB, ho, h4]
  have e' := splitT_yes hF e
  have hok' : ¬ tsize (spL t x L) (spD t x D) < 0 := fun e => h4 (tsize_neg.1 e)
  simp only [go_sem, seval, reduceCtorEq, hok', e, e']
  refine FnEnd.wk Wk.nogA ?_
  have e3 : (spL t x L).length = (wol t.labels [x]).length + L.length := by simp [spL]
  have e4 : (spD t x D).length = (permD t (wol t.labels [x])).length + D.length := by simp [spD]
  simp only [go_sem, seval, reduceCtorEq, e3, e4]
  (refine FnEnd.mk (Nat.le_of_ble_eq_true rfl) rfl (of_decide_eq_true rfl) ?_ ?_ <;> try simp only [go_sem, seval, reduceCtorEq])
  rfl
end Go.Proofs.Ytlijfhfhonalgaa
