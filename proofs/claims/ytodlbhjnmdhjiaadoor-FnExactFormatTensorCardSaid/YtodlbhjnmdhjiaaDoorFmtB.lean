/-
  Contracts: a tensor's text. No condition.
-/
import Derived.Test.YtodlbhjnmdhjiaaDoorFmtA
namespace Go.Proofs.YtodlbhjnmdhjiaaDoor
open Go.RowKit Go.Lift Plain
set_option linter.unusedSimpArgs false
set_option linter.unusedVariables false
set_option maxRecDepth 100000

def axText (ls ds : List Int) (i : Nat) : ByteArray := itoaB (ls.getD i 0) ++ ⟨#[58]⟩ ++ itoaB (ds.getD i 0)
def axTexts (ls ds : List Int) (k : Nat) : List ByteArray := (List.range k).map (axText ls ds)
def elText (xs : List Int) (wd i : Nat) : ByteArray := joinB (texts ((xs.drop (i * wd)).take wd)) ⟨#[44]⟩
def elTexts (xs : List Int) (wd k : Nat) : List ByteArray := (List.range k).map (elText xs wd)
/-- A tensor's words: its axes, then its first elements. -/
def words (t : Ten) (wd i : Nat) : List ByteArray := axTexts t.labels t.dims t.labels.length ++ [⟨#[61]⟩] ++ elTexts t.data wd i
/-- A tensor's text. -/
def fmtT (r : Rg) (t : Ten) : ByteArray := if tensorOk r t.labels t.dims t.data = true then joinB (words t (width r).toNat (prodI t.dims).toNat) ⟨#[32]⟩ else ⟨#[]⟩
theorem axTexts_len (ls ds : List Int) (k : Nat) : (axTexts ls ds k).length = k := by simp [axTexts]
theorem elTexts_len (xs : List Int) (wd k : Nat) : (elTexts xs wd k).length = k := by simp [elTexts]
theorem words_len (t : Ten) (wd i : Nat) : (words t wd i).length = t.labels.length + 1 + i := by simp [words, axTexts_len, elTexts_len]; omega
theorem axTexts_nil (ls ds : List Int) : axTexts ls ds 0 = [] := nr rfl
theorem axTexts_step (ls ds : List Int) (k : Nat) : axTexts ls ds (k + 1) = axTexts ls ds k ++ [axText ls ds k] := by simp [axTexts, List.range_succ]
theorem words_step (t : Ten) (wd i : Nat) : words t wd (i + 1) = words t wd i ++ [elText t.data wd i] := by simp [words, elTexts, List.range_succ]
theorem words_zero (t : Ten) (wd : Nat) : axTexts t.labels t.dims t.labels.length ++ [⟨#[61]⟩] = words t wd 0 := by simp [words, elTexts]
/-- What is known of a tensor that is right. -/
theorem fmt_facts {r : Rg} {t : Ten} (h : tensorOk r t.labels t.dims t.data = true) : ∃ wd n : Nat, width r = wd ∧ prodI t.dims = n ∧ 1 ≤ wd ∧ wd ≤ 6 ∧ 1 ≤ n ∧ n ≤ 4096 ∧ t.data.length = n * wd ∧ fits r t.data ∧ ringOk r = true ∧ axOk t.labels t.dims := by
  obtain ⟨f1, f2, f3, f4, f5, f6⟩ := tensorOk_facts h
  have hw := width_bd f1
  refine ⟨(width r).toNat, (prodI t.dims).toNat, by omega, by omega, by omega, by omega, by omega, by omega, ?_, ?_, f1, f2⟩
  · have : (t.data.length : Int) = ((prodI t.dims).toNat * (width r).toNat : Nat) := by
      rw [f6]; push_cast; rw [Int.toNat_of_nonneg (by omega), Int.toNat_of_nonneg (by omega)]
    omega
  · simp only [tensorOk, Bool.and_eq_true, fitsB, decide_eq_true_eq] at h
    exact h.2
theorem el_get {xs : List Int} {o wd k : Nat} (h : k < wd) (hx : o + wd ≤ xs.length) : ((xs.drop o).take wd).getD k 0 = xs.getD (o + k) 0 := by
  simp [List.getD, List.getElem?_take, h]
theorem el_ok {r : Rg} {t : Ten} {wd n i : Nat} (h1 : width r = wd) (hn : t.data.length = n * wd) (hf : fits r t.data) (hr : ringOk r = true) (hi : i < n) : elemOk r ((t.data.drop (i * wd)).take wd) = true ∧ Pos ((t.data.drop (i * wd)).take wd) ∧ i * wd + wd ≤ t.data.length := by
  have hb : i * wd + wd ≤ t.data.length := by
    rw [hn, ← Nat.succ_mul]
    exact Nat.mul_le_mul_right _ hi
  have hl := cut_len hb
  have hft : fits r ((t.data.drop (i * wd)).take wd) := fun k hk => by
    rw [hl] at hk
    rw [el_get hk hb]
    exact hf _ (by omega)
  have ht := top_bd hr
  refine ⟨?_, fun x hx => ?_, hb⟩
  · simp only [elemOk, hr, fitsB, Bool.true_and, Bool.and_eq_true, decide_eq_true_eq]
    exact ⟨by rw [hl, h1], hft⟩
  · obtain ⟨k, hk, rfl⟩ := List.mem_iff_getElem.1 hx
    have := hft k hk
    rw [getD_of hk] at this
    omega
theorem el_size {xs : List Int} {wd i : Nat} (h6 : wd ≤ 6) (hb : i * wd + wd ≤ xs.length) (hp : Pos ((xs.drop (i * wd)).take wd)) : (elText xs wd i).size ≤ 126 := by
  have := texts_size (sep := ⟨#[44]⟩) (by decide) hp
  rw [cut_len hb] at this
  unfold elText
  have := Nat.mul_le_mul_right 21 h6
  omega
theorem ax_pos {ls ds : List Int} (h : axOk ls ds) {k : Nat} (hk : k < ls.length) : (0 ≤ ls.getD k 0 ∧ ls.getD k 0 ≤ 99) ∧ 1 ≤ ds.getD k 0 ∧ ds.getD k 0 ≤ 8 := by
  have := h.2.2 k hk
  unfold axAt at this
  omega
theorem ax_size {ls ds : List Int} (h : axOk ls ds) {k : Nat} (hk : k < ls.length) : (axText ls ds k).size ≤ 126 := by
  obtain ⟨h1, h2⟩ := ax_pos h hk
  have s1 := itoaB_size (n := ls.getD k 0) (by omega)
  have s2 := itoaB_size (n := ds.getD k 0) (by omega)
  unfold axText
  simp only [ByteArray.size_append]
  have : (⟨#[58]⟩ : ByteArray).size = 1 := rfl
  omega
theorem words_size {r : Rg} {t : Ten} {wd n : Nat} (h1 : width r = wd) (h6 : wd ≤ 6) (hn : t.data.length = n * wd) (hn2 : n ≤ 4096) (hf : fits r t.data) (hr : ringOk r = true) (ha : axOk t.labels t.dims) : (joinB (words t wd n) ⟨#[32]⟩).size ≤ 1000000 := by
  have := joinB_size (c := 126) (sep := ⟨#[32]⟩) (by decide) _ (words t wd n) (words_len t wd n) fun x hx => by
    simp only [words, axTexts, elTexts, List.mem_append, List.mem_map, List.mem_range, List.mem_singleton] at hx
    rcases hx with (⟨k, hk, rfl⟩ | rfl) | ⟨k, hk, rfl⟩
    · exact ax_size ha hk
    · decide
    · obtain ⟨_, hp, hb⟩ := el_ok h1 hn hf hr hk
      exact el_size h6 hb hp
  have := ha.1
  omega
theorem sFormatIntZ_d {n : Int} (h : 0 ≤ n ∧ n ≤ 9223372036854775807) : Does Tryd.prog 12 [.d (.int n)] [] (.d (.str (itoaB n))) [] := by
  obtain ⟨m, rfl⟩ := Int.eq_ofNat_of_zero_le h.1
  exact sFormatInt_d (by omega)
set_option maxHeartbeats 1600000 in
theorem sFormatTensor_d {kk pp nn : Int} {t : Ten} (a : I64 kk) (b : I64 pp) (c : I64 nn) (hz : TSz 1048576 t) : Does Tryd.prog 5 [ringA kk pp nn, tenA t] [] (.d (.str (fmtT ⟨kk, pp, nn⟩ t))) [] := by
  (refine spec_of (by kernel_rfl) Tryd.func5 k_spec_FormatTensor (fnOk (Nat.le_of_ble_eq_true rfl) ?_); unfold C_spec_FormatTensor)
  (simp only [Nat.reduceSub, List.length_cons, List.length_nil, Nat.reduceAdd, ch_init1, ch_init2, ch_init3, ch_init4, ch_init5, ch_init6, ch_init7, ch_init8]; try simp only [ch_rep]); (simp only [go_sem, seval, reduceCtorEq, List.replicate])
  (refine ti_call (sTensorOk_d (k := kk) (p := pp) (n := nn) (t := t) a b c hz.up) ?_ ?_ ?_; (focus (simp only [go_sem, seval, reduceCtorEq]; done)); (first | rfl | (focus (simp only [go_sem]; done))))
  by_cases hok : tensorOk ⟨kk, pp, nn⟩ t.labels t.dims t.data = true
  rotate_left
  · have hk : tensorOk ⟨kk, pp, nn⟩ t.labels t.dims t.data = false := by simpa using hok
    have e : fmtT ⟨kk, pp, nn⟩ t = ⟨#[]⟩ := if_neg hok
    simp only [go_sem, seval, reduceCtorEq, hk, e]
    (refine FnEnd.mk (Nat.le_of_ble_eq_true rfl) rfl (of_decide_eq_true rfl) ?_ ?_ <;> try simp only [go_sem, seval, reduceCtorEq])
  obtain ⟨wd, n, h1, h2, h3, h4, h5, h6, h7, hf, hr, ha⟩ := fmt_facts hok
  have e : fmtT ⟨kk, pp, nn⟩ t = joinB (words t wd n) ⟨#[32]⟩ := by unfold fmtT; rw [if_pos hok, h1, h2]; rfl
  have hws := words_size h1 h4 h7 h6 hf hr ha
  have hL := ha.1
  have hLD := ha.2.1
  have hzx := hz.x.len
  simp only [go_sem, seval, reduceCtorEq, hok, e]
  have e0 := axTexts_nil t.labels t.dims
  have et := axTexts_len t.labels t.dims
  refine wpN_lp (t.labels.length) [false, false, false, false, false, false, true, true, false, false, false, false, false, true, false, false, false, false, true, true, true, true, true, true, true, true, true, true, true, true, true, true, true, true, true, true, false, false, false, false, false, false, false, false, false, false, false, false, false, false, false, false, false, false, false, false, false] (fun k => [(5, .own 2 0 k), (17, .d (.int k))]) (fun k => [(2, xv (axTexts t.labels t.dims k))]) (fun _ => by (simp only [go_sem, seval, reduceCtorEq, dropF_ch, dropF_cons, dropF_nil, cut, cond_true, cond_false]); first | done | rfl) (fun _ => by (simp only [go_sem, seval, reduceCtorEq, cut]); first | done | rfl) (Nat.le_of_ble_eq_true rfl) (by first | (simp only [go_sem, seval, reduceCtorEq, dropF_ch, dropF_cons, dropF_nil, cut, cond_true, cond_false, Int.natCast_zero, Int.natCast_add, Int.natCast_one, e0, xv_nil]; done) | rfl | (simp only [go_sem, seval, reduceCtorEq, dropF_ch, dropF_cons, dropF_nil, cut, cond_true, cond_false, Int.natCast_zero, Int.natCast_add, Int.natCast_one, e0, xv_nil]; rfl)) (by first | (simp only [go_sem, seval, reduceCtorEq, dropF_ch, dropF_cons, dropF_nil, cut, cond_true, cond_false, Int.natCast_zero, Int.natCast_add, Int.natCast_one, e0, xv_nil]; done) | rfl | (simp only [go_sem, seval, reduceCtorEq, dropF_ch, dropF_cons, dropF_nil, cut, cond_true, cond_false, Int.natCast_zero, Int.natCast_add, Int.natCast_one, e0, xv_nil]; rfl)) fun k hk => ?_
  unfold L1_spec_FormatTensor
  by_cases hlt : k < t.labels.length
  · have d1 : (k : Int) < t.labels.length := by omega
    have d2 : (k : Int) < t.dims.length := by omega
    have hkd : k < t.dims.length := by omega
    have g : t.labels[k]? = some t.labels[k] := List.getElem?_eq_getElem hlt
    have g2 : t.dims[k]? = some t.dims[k] := List.getElem?_eq_getElem hkd
    have hq := ax_pos ha hlt
    rw [getD_of hlt, getD_of hkd] at hq
    have hs := axTexts_step t.labels t.dims k
    have hax : axText t.labels t.dims k = itoaB t.labels[k] ++ ⟨#[58]⟩ ++ itoaB t.dims[k] := by unfold axText; rw [getD_of hlt, getD_of hkd]
    rw [hax] at hs
    have s1 := itoaB_size (n := t.labels[k]) (by omega)
    have s2 := itoaB_size (n := t.dims[k]) (by omega)
    have s3 : (⟨#[58]⟩ : ByteArray).size = 1 := rfl
    simp (disch := omega) only [go_sem, seval, reduceCtorEq, d1, g, Option.map_some]
    (refine gi_call (sFormatIntZ_d (n := t.labels[k]) (by omega)) ?_ ?_ ?_; (focus (simp only [go_sem, seval, reduceCtorEq]; done)); (first | rfl | (focus (simp only [go_sem]; done))))
    simp (disch := omega) only [go_sem, seval, reduceCtorEq, d2, g2, Option.map_some, s3, ByteArray.size_append]
    (repeat (refine And.intro (by omega) ?_))
    (refine gi_call (sFormatIntZ_d (n := t.dims[k]) (by omega)) ?_ ?_ ?_; (focus (simp only [go_sem, seval, reduceCtorEq]; done)); (first | rfl | (focus (simp only [go_sem]; done))))
    simp (disch := omega) only [go_sem, seval, reduceCtorEq, Option.map_some, s3, ByteArray.size_append, et, ← hs]
    (repeat (refine And.intro (by omega) ?_))
    (refine Next.drop [false, false, false, false, false, false, true, true, false, false, false, false, false, true, false, false, false, false, true, true, true, true, true, true, true, true, true, true, true, true, true, true, true, true, true, true, false, false, false, false, false, false, false, false, false, false, false, false, false, false, false, false, false, false, false, false, false] (by omega) (Nat.le_of_ble_eq_true rfl) ?_ ?_ <;> first | (simp only [go_sem, seval, reduceCtorEq, dropF_ch, dropF_cons, dropF_nil, cut, cond_true, cond_false, Int.natCast_zero, Int.natCast_add, Int.natCast_one]; done) | rfl | (simp only [go_sem, seval, reduceCtorEq, dropF_ch, dropF_cons, dropF_nil, cut, cond_true, cond_false, Int.natCast_zero, Int.natCast_add, Int.natCast_one]; rfl) | skip)
  · have d1 : ¬ (k : Int) < t.labels.length := by omega
    have hk' : k = t.labels.length := by omega
    subst hk'
    simp (disch := omega) only [go_sem, seval, reduceCtorEq, d1, et]
    refine ⟨by omega, ?_⟩
    have w0 := words_zero t wd
    have wl := words_len t wd
    refine wpN_lp (n) [false, false, false, false, false, false, false, false, false, false, false, false, false, false, false, false, false, false, false, false, false, false, false, false, false, false, false, false, false, false, false, false, false, false, false, false, false, false, true, true, true, true, true, true, true, true, true, true, true, true, true, true, true, true, true, false, false] (fun i => [(5, .own 2 0 (t.labels.length + 1 + i)), (8, .d (.int i))]) (fun i => [(2, xv (words t wd i))]) (fun _ => by (simp only [go_sem, seval, reduceCtorEq, dropF_ch, dropF_cons, dropF_nil, cut, cond_true, cond_false]); first | done | rfl) (fun _ => by (simp only [go_sem, seval, reduceCtorEq, cut]); first | done | rfl) (Nat.le_of_ble_eq_true rfl) (by first | (simp only [go_sem, seval, reduceCtorEq, dropF_ch, dropF_cons, dropF_nil, cut, cond_true, cond_false, Int.natCast_zero, Int.natCast_add, Int.natCast_one, w0, Nat.add_zero]; done) | rfl | (simp only [go_sem, seval, reduceCtorEq, dropF_ch, dropF_cons, dropF_nil, cut, cond_true, cond_false, Int.natCast_zero, Int.natCast_add, Int.natCast_one, w0, Nat.add_zero]; rfl)) (by first | (simp only [go_sem, seval, reduceCtorEq, dropF_ch, dropF_cons, dropF_nil, cut, cond_true, cond_false, Int.natCast_zero, Int.natCast_add, Int.natCast_one, w0, Nat.add_zero]; done) | rfl | (simp only [go_sem, seval, reduceCtorEq, dropF_ch, dropF_cons, dropF_nil, cut, cond_true, cond_false, Int.natCast_zero, Int.natCast_add, Int.natCast_one, w0, Nat.add_zero]; rfl)) fun i hi => ?_
    unfold L0_spec_FormatTensor
    have e2 : min (prodI t.dims) 4097 = (n : Int) := by omega
    simp (disch := omega) only [go_sem, seval, reduceCtorEq]
    (refine ti_call (l05Product_d (ds := t.dims) (lim := 4096) (by omega) (fun d hd => by have := ha.dim d hd; omega) (by omega)) ?_ ?_ ?_; (focus (simp only [go_sem, seval, reduceCtorEq]; done)); (first | rfl | (focus (simp only [go_sem]; done))))
    simp (disch := omega) only [go_sem, seval, reduceCtorEq, e2]
    by_cases hlt2 : i < n
    · have d2 : (i : Int) < n := by omega
      obtain ⟨q1, q2, q3⟩ := el_ok h1 h7 hf hr hlt2
      have hs : words t wd (i + 1) = words t wd i ++ [joinB (texts ((t.data.drop (i * wd)).take wd)) ⟨#[44]⟩] := words_step t wd i
      simp (disch := omega) only [go_sem, seval, reduceCtorEq, d2]
      (refine gi_call (l05Get_d (x := i) (wd := wd) (kk := kk) (pp := pp) (nn := nn) (t := t) h1 (by omega) q3 (by omega) (by omega)) ?_ ?_ ?_; (focus (simp only [go_sem, seval, reduceCtorEq]; done)); (first | rfl | (focus (simp only [go_sem]; done))))
      simp (disch := omega) only [go_sem, seval, reduceCtorEq]
      have ql := cut_len q3
      have el : D.sl wd (dv ((t.data.drop (i * wd)).take wd)) = ints ((t.data.drop (i * wd)).take wd) := by unfold ints; rw [ql]
      (refine gi_call (FormatElem_d (kk := kk) (pp := pp) (nn := nn) (xs := (t.data.drop (i * wd)).take wd) q1 ⟨by rw [ql]; omega, fun x hx => ⟨by have := (q2 x hx).1; omega, (q2 x hx).2⟩⟩ q2 (by omega)) ?_ ?_ ?_; (focus (simp only [go_sem, seval, reduceCtorEq, el, List.take_take, Nat.min_self]; done)); (first | rfl | (focus (simp only [go_sem]; done))))
      simp (disch := omega) only [go_sem, seval, reduceCtorEq, wl, ← hs, Option.map_some]
      (repeat (refine And.intro (by omega) ?_))
      (refine Next.drop [false, false, false, false, false, false, false, false, false, false, false, false, false, false, false, false, false, false, false, false, false, false, false, false, false, false, false, false, false, false, false, false, false, false, false, false, false, false, true, true, true, true, true, true, true, true, true, true, true, true, true, true, true, true, true, false, false] (by omega) (Nat.le_of_ble_eq_true rfl) ?_ ?_ <;> first | (simp only [go_sem, seval, reduceCtorEq, dropF_ch, dropF_cons, dropF_nil, cut, cond_true, cond_false, Int.natCast_zero, Int.natCast_add, Int.natCast_one]; done) | rfl | (simp only [go_sem, seval, reduceCtorEq, dropF_ch, dropF_cons, dropF_nil, cut, cond_true, cond_false, Int.natCast_zero, Int.natCast_add, Int.natCast_one]; rfl) | skip)
    · have d2 : ¬ (i : Int) < n := by omega
      have hi' : i = n := by omega
      subst hi'
      simp (disch := omega) only [go_sem, seval, reduceCtorEq, d2]
      have wt : (words t wd i).take (t.labels.length + 1 + i) = words t wd i := List.take_of_length_le (by rw [wl]; exact Nat.le_refl _)
      have es : strs (words t wd i) = .sl (t.labels.length + 1 + i) (dxv (words t wd i)) := by unfold strs; rw [wl]
      (refine ti_call (sJoin_d (xs := words t wd i) (sep := ⟨#[32]⟩) (by rw [wl]; omega) (by omega)) ?_ ?_ ?_; (focus (simp only [go_sem, seval, reduceCtorEq, es, wl, wt]; done)); (first | rfl | (focus (simp only [go_sem]; done))))
      (refine FnEnd.mk (Nat.le_of_ble_eq_true rfl) rfl (of_decide_eq_true rfl) ?_ ?_ <;> try simp only [go_sem, seval, reduceCtorEq])
set_option maxHeartbeats 1600000 in
theorem iFormatTensor_d {kk pp nn : Int} {t : Ten} (a : I64 kk) (b : I64 pp) (c : I64 nn) (hz : TSz 1048576 t) : Does Tryd.prog 8 [ringA kk pp nn, tenA t] [] (.d (.str (fmtT ⟨kk, pp, nn⟩ t))) [] := by
  (refine spec_of (by kernel_rfl) Tryd.func8 k_impl_FormatTensor (fnOk (Nat.le_of_ble_eq_true rfl) ?_); unfold C_impl_FormatTensor)
  (simp only [Nat.reduceSub, List.length_cons, List.length_nil, Nat.reduceAdd, ch_init1, ch_init2, ch_init3, ch_init4, ch_init5, ch_init6, ch_init7, ch_init8]; try simp only [ch_rep]); (simp only [go_sem, seval, reduceCtorEq, List.replicate])
  (refine ti_call (iTensorOk_d (k := kk) (p := pp) (n := nn) (t := t) a b c hz.up) ?_ ?_ ?_; (focus (simp only [go_sem, seval, reduceCtorEq]; done)); (first | rfl | (focus (simp only [go_sem]; done))))
  by_cases hok : tensorOk ⟨kk, pp, nn⟩ t.labels t.dims t.data = true
  rotate_left
  · have hk : tensorOk ⟨kk, pp, nn⟩ t.labels t.dims t.data = false := by simpa using hok
    have e : fmtT ⟨kk, pp, nn⟩ t = ⟨#[]⟩ := if_neg hok
    simp only [go_sem, seval, reduceCtorEq, hk, e]
    (refine FnEnd.mk (Nat.le_of_ble_eq_true rfl) rfl (of_decide_eq_true rfl) ?_ ?_ <;> try simp only [go_sem, seval, reduceCtorEq])
  obtain ⟨wd, n, h1, h2, h3, h4, h5, h6, h7, hf, hr, ha⟩ := fmt_facts hok
  have e : fmtT ⟨kk, pp, nn⟩ t = joinB (words t wd n) ⟨#[32]⟩ := by unfold fmtT; rw [if_pos hok, h1, h2]; rfl
  have hws := words_size h1 h4 h7 h6 hf hr ha
  have hL := ha.1
  have hLD := ha.2.1
  have hzx := hz.x.len
  simp only [go_sem, seval, reduceCtorEq, hok, e]
  have e0 := axTexts_nil t.labels t.dims
  have et := axTexts_len t.labels t.dims
  (refine wpN_lwk (Wk.nilE 5 1 _ _ rfl) ?_; simp only [go_sem, seval, reduceCtorEq])
  refine wpN_lp (t.labels.length) [false, false, false, false, false, false, true, true, false, false, false, false, false, false, false, false, false, true, true, true, true, true, true, true, true, true, true, true, true, true, true, true, true, true, true, false, false, false, false, false, false, false, false, false, false, false, false, false, false, false, false, false, false, false, false] (fun k => [(5, .own 2 0 k), (16, .d (.int k))]) (fun k => [(2, xv (axTexts t.labels t.dims k))]) (fun _ => by (simp only [go_sem, seval, reduceCtorEq, dropF_ch, dropF_cons, dropF_nil, cut, cond_true, cond_false]); first | done | rfl) (fun _ => by (simp only [go_sem, seval, reduceCtorEq, cut]); first | done | rfl) (Nat.le_of_ble_eq_true rfl) (by first | (simp only [go_sem, seval, reduceCtorEq, dropF_ch, dropF_cons, dropF_nil, cut, cond_true, cond_false, Int.natCast_zero, Int.natCast_add, Int.natCast_one, e0, xv_nil]; done) | rfl | (simp only [go_sem, seval, reduceCtorEq, dropF_ch, dropF_cons, dropF_nil, cut, cond_true, cond_false, Int.natCast_zero, Int.natCast_add, Int.natCast_one, e0, xv_nil]; rfl)) (by first | (simp only [go_sem, seval, reduceCtorEq, dropF_ch, dropF_cons, dropF_nil, cut, cond_true, cond_false, Int.natCast_zero, Int.natCast_add, Int.natCast_one, e0, xv_nil]; done) | rfl | (simp only [go_sem, seval, reduceCtorEq, dropF_ch, dropF_cons, dropF_nil, cut, cond_true, cond_false, Int.natCast_zero, Int.natCast_add, Int.natCast_one, e0, xv_nil]; rfl)) fun k hk => ?_
  unfold L1_impl_FormatTensor
  by_cases hlt : k < t.labels.length
  · have d1 : (k : Int) < t.labels.length := by omega
    have d2 : (k : Int) < t.dims.length := by omega
    have hkd : k < t.dims.length := by omega
    have g : t.labels[k]? = some t.labels[k] := List.getElem?_eq_getElem hlt
    have g2 : t.dims[k]? = some t.dims[k] := List.getElem?_eq_getElem hkd
    have hq := ax_pos ha hlt
    rw [getD_of hlt, getD_of hkd] at hq
    have hs := axTexts_step t.labels t.dims k
    have hax : axText t.labels t.dims k = itoaB t.labels[k] ++ ⟨#[58]⟩ ++ itoaB t.dims[k] := by unfold axText; rw [getD_of hlt, getD_of hkd]
    rw [hax] at hs
    have s1 := itoaB_size (n := t.labels[k]) (by omega)
    have s2 := itoaB_size (n := t.dims[k]) (by omega)
    have s3 : (⟨#[58]⟩ : ByteArray).size = 1 := rfl
    simp (disch := omega) only [go_sem, seval, reduceCtorEq, d1, g, Option.map_some]
    (refine gi_call (iFormatInt_d (n := t.labels[k]) ⟨by omega, by omega⟩) ?_ ?_ ?_; (focus (simp only [go_sem, seval, reduceCtorEq]; done)); (first | rfl | (focus (simp only [go_sem]; done))))
    simp (disch := omega) only [go_sem, seval, reduceCtorEq, d2, g2, Option.map_some, s3, ByteArray.size_append]
    (repeat (refine And.intro (by omega) ?_))
    (refine gi_call (iFormatInt_d (n := t.dims[k]) ⟨by omega, by omega⟩) ?_ ?_ ?_; (focus (simp only [go_sem, seval, reduceCtorEq]; done)); (first | rfl | (focus (simp only [go_sem]; done))))
    simp (disch := omega) only [go_sem, seval, reduceCtorEq, Option.map_some, s3, ByteArray.size_append, et, ← hs]
    (repeat (refine And.intro (by omega) ?_))
    (refine Next.drop [false, false, false, false, false, false, true, true, false, false, false, false, false, false, false, false, false, true, true, true, true, true, true, true, true, true, true, true, true, true, true, true, true, true, true, false, false, false, false, false, false, false, false, false, false, false, false, false, false, false, false, false, false, false, false] (by omega) (Nat.le_of_ble_eq_true rfl) ?_ ?_ <;> first | (simp only [go_sem, seval, reduceCtorEq, dropF_ch, dropF_cons, dropF_nil, cut, cond_true, cond_false, Int.natCast_zero, Int.natCast_add, Int.natCast_one]; done) | rfl | (simp only [go_sem, seval, reduceCtorEq, dropF_ch, dropF_cons, dropF_nil, cut, cond_true, cond_false, Int.natCast_zero, Int.natCast_add, Int.natCast_one]; rfl) | skip)
  · have d1 : ¬ (k : Int) < t.labels.length := by omega
    have hk' : k = t.labels.length := by omega
    subst hk'
    simp (disch := omega) only [go_sem, seval, reduceCtorEq, d1, et]
    refine ⟨by omega, ?_⟩
    have w0 := words_zero t wd
    have wl := words_len t wd
    refine wpN_lp (n) [false, false, false, false, false, false, false, false, false, false, false, false, false, false, false, false, false, false, false, false, false, false, false, false, false, false, false, false, false, false, false, false, false, false, false, false, false, true, true, true, true, true, true, true, true, true, true, true, true, true, true, true, true, false, false] (fun i => [(5, .own 2 0 (t.labels.length + 1 + i)), (8, .d (.int i))]) (fun i => [(2, xv (words t wd i))]) (fun _ => by (simp only [go_sem, seval, reduceCtorEq, dropF_ch, dropF_cons, dropF_nil, cut, cond_true, cond_false]); first | done | rfl) (fun _ => by (simp only [go_sem, seval, reduceCtorEq, cut]); first | done | rfl) (Nat.le_of_ble_eq_true rfl) (by first | (simp only [go_sem, seval, reduceCtorEq, dropF_ch, dropF_cons, dropF_nil, cut, cond_true, cond_false, Int.natCast_zero, Int.natCast_add, Int.natCast_one, w0, Nat.add_zero]; done) | rfl | (simp only [go_sem, seval, reduceCtorEq, dropF_ch, dropF_cons, dropF_nil, cut, cond_true, cond_false, Int.natCast_zero, Int.natCast_add, Int.natCast_one, w0, Nat.add_zero]; rfl)) (by first | (simp only [go_sem, seval, reduceCtorEq, dropF_ch, dropF_cons, dropF_nil, cut, cond_true, cond_false, Int.natCast_zero, Int.natCast_add, Int.natCast_one, w0, Nat.add_zero]; done) | rfl | (simp only [go_sem, seval, reduceCtorEq, dropF_ch, dropF_cons, dropF_nil, cut, cond_true, cond_false, Int.natCast_zero, Int.natCast_add, Int.natCast_one, w0, Nat.add_zero]; rfl)) fun i hi => ?_
    unfold L0_impl_FormatTensor
    simp (disch := omega) only [go_sem, seval, reduceCtorEq]
    (refine ti_call (productOf_d (ds := t.dims) (by omega) (fun d hd => by have := ha.dim d hd; omega) (by omega)) ?_ ?_ ?_; (focus (simp only [go_sem, seval, reduceCtorEq]; done)); (first | rfl | (focus (simp only [go_sem]; done))))
    simp (disch := omega) only [go_sem, seval, reduceCtorEq, h2]
    by_cases hlt2 : i < n
    · have d2 : (i : Int) < n := by omega
      obtain ⟨q1, q2, q3⟩ := el_ok h1 h7 hf hr hlt2
      have hs : words t wd (i + 1) = words t wd i ++ [joinB (texts ((t.data.drop (i * wd)).take wd)) ⟨#[44]⟩] := words_step t wd i
      simp (disch := omega) only [go_sem, seval, reduceCtorEq, d2]
      (refine ti_call (rawElem_d (x := i) (wd := wd) (kk := kk) (pp := pp) (nn := nn) (t := t) h1 (by omega) q3 (by omega) (by omega)) ?_ ?_ ?_; (focus (simp only [go_sem, seval, reduceCtorEq]; done)); (first | rfl | (focus (simp only [go_sem]; done))))
      simp (disch := omega) only [go_sem, seval, reduceCtorEq]
      have ql := cut_len q3
      (refine ti_call (rawElemText_d (xs := (t.data.drop (i * wd)).take wd) ⟨by rw [ql]; omega, fun x hx => ⟨by have := (q2 x hx).1; omega, (q2 x hx).2⟩⟩ q2 (by omega)) ?_ ?_ ?_; (focus (simp only [go_sem, seval, reduceCtorEq]; done)); (first | rfl | (focus (simp only [go_sem]; done))))
      simp (disch := omega) only [go_sem, seval, reduceCtorEq, wl, ← hs, Option.map_some]
      (repeat (refine And.intro (by omega) ?_))
      (refine Next.drop [false, false, false, false, false, false, false, false, false, false, false, false, false, false, false, false, false, false, false, false, false, false, false, false, false, false, false, false, false, false, false, false, false, false, false, false, false, true, true, true, true, true, true, true, true, true, true, true, true, true, true, true, true, false, false] (by omega) (Nat.le_of_ble_eq_true rfl) ?_ ?_ <;> first | (simp only [go_sem, seval, reduceCtorEq, dropF_ch, dropF_cons, dropF_nil, cut, cond_true, cond_false, Int.natCast_zero, Int.natCast_add, Int.natCast_one]; done) | rfl | (simp only [go_sem, seval, reduceCtorEq, dropF_ch, dropF_cons, dropF_nil, cut, cond_true, cond_false, Int.natCast_zero, Int.natCast_add, Int.natCast_one]; rfl) | skip)
    · have d2 : ¬ (i : Int) < n := by omega
      have hi' : i = n := by omega
      subst hi'
      simp (disch := omega) only [go_sem, seval, reduceCtorEq, d2]
      have wt : (words t wd i).take (t.labels.length + 1 + i) = words t wd i := List.take_of_length_le (by rw [wl]; exact Nat.le_refl _)
      have es : strs (words t wd i) = .sl (t.labels.length + 1 + i) (dxv (words t wd i)) := by unfold strs; rw [wl]
      (refine ti_call (iJoin_d (xs := words t wd i) (sep := ⟨#[32]⟩) (by rw [wl]; omega) (by omega)) ?_ ?_ ?_; (focus (simp only [go_sem, seval, reduceCtorEq, es, wl, wt]; done)); (first | rfl | (focus (simp only [go_sem]; done))))
      (refine FnEnd.mk (Nat.le_of_ble_eq_true rfl) rfl (of_decide_eq_true rfl) ?_ ?_ <;> try simp only [go_sem, seval, reduceCtorEq])
end Go.Proofs.YtodlbhjnmdhjiaaDoor
