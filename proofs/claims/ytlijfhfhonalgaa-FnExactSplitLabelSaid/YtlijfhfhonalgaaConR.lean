/-
  Contracts: labels fused. No condition.
-/
import Derived.Test.YtlijfhfhonalgaaMgSplitLabelA
import Derived.Test.YtlijfhfhonalgaaConM
import Derived.Test.YtlijfhfhonalgaaPlB
namespace Go.Proofs.Ytlijfhfhonalgaa
open Go.RowKit Go.Lift Plain
set_option linter.unusedSimpArgs false
set_option linter.unusedVariables false
set_option maxRecDepth 100000

def fuL (t : Ten) (L : List Int) (x : Int) : List Int := wol t.labels L ++ [x]
def fuD (t : Ten) (L : List Int) : List Int := permD t (wol t.labels L) ++ [prodI (permD t L)]
def fuB1 (r : Rg) (t : Ten) (L : List Int) : Bool := tensorOk r t.labels t.dims t.data && decide (1 ≤ L.length) && distB t.labels L
def fuseB (r : Rg) (t : Ten) (L : List Int) (x : Int) : Bool := fuB1 r t L && decide (tsize (fuL t L x) (fuD t L) ≠ -1)
def fuseT (r : Rg) (t : Ten) (L : List Int) (x : Int) : Ten := if fuseB r t L x = true then ⟨fuL t L x, fuD t L, (permR (width r).toNat t (wol t.labels L ++ L)).data⟩ else ⟨[], [], []⟩
structure FuOk (r : Rg) (t : Ten) (L : List Int) (x : Int) (wd n : Nat) : Prop where
  w : width r = wd
  p : PermOk t (wol t.labels L ++ L) wd n
  ok : ∀ x, tensorOk r (fuL t L x) (fuD t L) (permR wd t (wol t.labels L ++ L)).data = decide (tsize (fuL t L x) (fuD t L) ≠ -1)
  pl : prodI (permD t L) ≤ 4096 ∧ 1 ≤ prodI (permD t L)
  dl : ∀ d ∈ permD t L, 1 ≤ d ∧ d ≤ 8
  len : (wol t.labels L).length ≤ 12 ∧ L.length ≤ 12
  dle : ((permR wd t (wol t.labels L ++ L)).data.length) ≤ 24576
theorem fuOk {r : Rg} {t : Ten} {L : List Int} {x : Int} (h : fuB1 r t L = true) : ∃ wd n : Nat, FuOk r t L x wd n := by
  simp only [fuB1, Bool.and_eq_true, decide_eq_true_eq] at h
  obtain ⟨⟨h1, h2⟩, h3⟩ := h
  obtain ⟨wd, n, e1, e2, e3, e4, e5, e6, e7, e8, e9, e10⟩ := ten_facts h1
  obtain ⟨wd', n', f1, f2, hP⟩ := mkPerm h1 (fuse_same (axOk_nodup e10) h3)
  obtain rfl : wd = wd' := by omega
  have hb := hP.dbd
  rw [permD_app] at hb
  have hp := hP.pbd
  rw [permD_app, prodI_append] at hp
  have p1 := prodI_pos (permD t (wol t.labels L)) (fun d hd => (hb d (List.mem_append.2 (.inl hd))).1)
  have p2 := prodI_pos (permD t L) (fun d hd => (hb d (List.mem_append.2 (.inr hd))).1)
  have hn := hP.n1
  have hpl : prodI (permD t L) ≤ 4096 := by
    have : 1 * prodI (permD t L) ≤ prodI (permD t (wol t.labels L)) * prodI (permD t L) := Int.mul_le_mul_of_nonneg_right p1 (by omega)
    omega
  have hl12 := hP.len12
  rw [List.length_append] at hl12
  have hdl := permR_dlen hP
  refine ⟨wd, n', e1, hP, fun x => ?_, ⟨hpl, p2⟩, fun d hd => hb d (List.mem_append.2 (.inr hd)), ⟨by omega, by omega⟩, ?_⟩
  · refine tenOk_of e9 ?_ (permR_fits (n := n') e8)
    rw [hdl, e1, permD_app, prodI_append, fuD, prodI_append, prodI_one]
  · rw [permD_app, prodI_append] at hdl
    have h4 := hP.w1
    have : prodI (permD t (wol t.labels L)) * prodI (permD t L) * (wd : Int) ≤ 4096 * 6 := Int.mul_le_mul (by omega) (by omega) (by omega) (by omega)
    omega
theorem fuseT_yes {r : Rg} {t : Ten} {L : List Int} {x : Int} {wd n : Nat} (h : FuOk r t L x wd n) (ho : fuseB r t L x = true) : fuseT r t L x = ⟨fuL t L x, fuD t L, (permR wd t (wol t.labels L ++ L)).data⟩ := by
  rw [fuseT, if_pos ho, h.w]; rfl
theorem l10Rest_d {t : Ten} {L : List Int} (h : t.labels.length ≤ 1048576) (hL : L.length ≤ 1048576) : Does Try.prog 38 [tenA t, .d (ints L)] [] (.own 0 0 (wol t.labels L).length) [some ⟨1, true, iv (wol t.labels L)⟩] := by
  (refine spec_of (by kernel_rfl) Try.func38 k_spec_l10Rest (fnOk (Nat.le_of_ble_eq_true rfl) ?_); unfold C_spec_l10Rest)
  (simp only [Nat.reduceSub, List.length_cons, List.length_nil, Nat.reduceAdd, ch_init1, ch_init2, ch_init3, ch_init4, ch_init5, ch_init6, ch_init7, ch_init8]; try simp only [ch_rep]); (simp only [go_sem, seval, reduceCtorEq, List.replicate])
  refine wpN_lp (t.labels.length) [false, false, false, false, false, false, false, true, true, false, false, false, false, true, true, true, true, true, true, true, true, true, true, true, true, false] (fun k => [(5, .own 1 0 (wol (t.labels.take k) L).length), (12, .d (.int k))]) (fun k => [(1, iv (wol (t.labels.take k) L))]) (fun _ => by (simp only [go_sem, seval, reduceCtorEq, dropF_ch, dropF_cons, dropF_nil, cut, cond_true, cond_false]); first | done | rfl) (fun _ => by (simp only [go_sem, seval, reduceCtorEq, cut]); first | done | rfl) (Nat.le_of_ble_eq_true rfl) (by first | (simp only [go_sem, seval, reduceCtorEq, dropF_ch, dropF_cons, dropF_nil, cut, cond_true, cond_false, Int.natCast_zero, Int.natCast_add, Int.natCast_one, List.take_zero]; done) | rfl | (simp only [go_sem, seval, reduceCtorEq, dropF_ch, dropF_cons, dropF_nil, cut, cond_true, cond_false, Int.natCast_zero, Int.natCast_add, Int.natCast_one, List.take_zero]; rfl)) (by first | (simp only [go_sem, seval, reduceCtorEq, dropF_ch, dropF_cons, dropF_nil, cut, cond_true, cond_false, Int.natCast_zero, Int.natCast_add, Int.natCast_one, List.take_zero]; done) | rfl | (simp only [go_sem, seval, reduceCtorEq, dropF_ch, dropF_cons, dropF_nil, cut, cond_true, cond_false, Int.natCast_zero, Int.natCast_add, Int.natCast_one, List.take_zero]; rfl)) fun k hk => ?_
  unfold L0_spec_l10Rest
  by_cases hlt : k < t.labels.length
  · have h1 : (k : Int) < t.labels.length := by omega
    have hx : t.labels[k]? = some t.labels[k] := List.getElem?_eq_getElem hlt
    have hf := wol_len (t.labels.take k) L
    have hf2 : (t.labels.take k).length ≤ t.labels.length := by rw [List.length_take]; omega
    simp (disch := omega) only [go_sem, seval, reduceCtorEq, h1, hx]
    (refine ti_call (l05Find_d (xs := L) (x := t.labels[k]) (by omega)) ?_ ?_ ?_; (focus (simp only [go_sem, seval, reduceCtorEq]; done)); (first | rfl | (focus (simp only [go_sem]; done))))
    by_cases he : t.labels[k] ∈ L
    · have c : ¬ place L t.labels[k] < 0 := fun e => place_neg.1 e he
      have e : wol (t.labels.take (k + 1)) L = wol (t.labels.take k) L := filter_no (p := fun x => !has L x) hlt (by rw [has_true.2 he]; rfl)
      simp (disch := omega) only [go_sem, seval, reduceCtorEq, c]
      (refine Next.drop [false, false, false, false, false, false, false, true, true, false, false, false, false, true, true, true, true, true, true, true, true, true, true, true, true, false] (by omega) (Nat.le_of_ble_eq_true rfl) ?_ ?_ <;> first | (simp only [go_sem, seval, reduceCtorEq, dropF_ch, dropF_cons, dropF_nil, cut, cond_true, cond_false, Int.natCast_zero, Int.natCast_add, Int.natCast_one, e]; done) | rfl | (simp only [go_sem, seval, reduceCtorEq, dropF_ch, dropF_cons, dropF_nil, cut, cond_true, cond_false, Int.natCast_zero, Int.natCast_add, Int.natCast_one, e]; rfl) | skip)
    · have c : place L t.labels[k] < 0 := place_neg.2 he
      have e : wol (t.labels.take (k + 1)) L = wol (t.labels.take k) L ++ [t.labels[k]] := filter_yes (p := fun x => !has L x) hlt (by rw [has_false.2 he]; rfl)
      simp (disch := omega) only [go_sem, seval, reduceCtorEq, c]
      refine ⟨by omega, ?_⟩
      (refine Next.drop [false, false, false, false, false, false, false, true, true, false, false, false, false, true, true, true, true, true, true, true, true, true, true, true, true, false] (by omega) (Nat.le_of_ble_eq_true rfl) ?_ ?_ <;> first | (simp only [go_sem, seval, reduceCtorEq, dropF_ch, dropF_cons, dropF_nil, cut, cond_true, cond_false, Int.natCast_zero, Int.natCast_add, Int.natCast_one, e, List.length_append]; done) | rfl | (simp only [go_sem, seval, reduceCtorEq, dropF_ch, dropF_cons, dropF_nil, cut, cond_true, cond_false, Int.natCast_zero, Int.natCast_add, Int.natCast_one, e, List.length_append]; rfl) | skip)
  · have h1 : ¬ (k : Int) < t.labels.length := by omega
    simp (disch := omega) only [go_sem, seval, reduceCtorEq, h1]
    (refine FnEnd.mk (Nat.le_of_ble_eq_true rfl) rfl (of_decide_eq_true rfl) ?_ ?_ <;> try simp only [go_sem, seval, reduceCtorEq])
    all_goals rw [List.take_of_length_le (by omega)]
end Go.Proofs.Ytlijfhfhonalgaa
