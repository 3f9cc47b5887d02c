/-
  Contracts: PermuteTensor. No condition.
-/
import Derived.Test.YtmgifmgdfldheaaConK
namespace Go.Proofs.Ytmgifmgdfldheaa
open Go.RowKit Go.Lift Plain
set_option linter.unusedSimpArgs false
set_option linter.unusedVariables false
set_option maxRecDepth 100000

def permB (r : Rg) (t : Ten) (L : List Int) : Bool := tensorOk r t.labels t.dims t.data && sameB t.labels L
def permT (r : Rg) (t : Ten) (L : List Int) : Ten := if permB r t L = true then permR (width r).toNat t L else ⟨[], [], []⟩
theorem mkPerm {r : Rg} {t : Ten} {L : List Int} (h : tensorOk r t.labels t.dims t.data = true) (h2 : sameB t.labels L = true) : ∃ wd n : Nat, width r = wd ∧ prodI t.dims = n ∧ PermOk t L wd n := by
  obtain ⟨wd, n, e1, e2, e3, e4, e5, e6, e7, e8, e9, e10⟩ := ten_facts h
  exact ⟨wd, n, e1, e2, e10, e2, ⟨e5, e6⟩, ⟨e3, e4⟩, e7, h2⟩
theorem permB_ok {r : Rg} {t : Ten} {L : List Int} (h : permB r t L = true) : ∃ wd n : Nat, width r = wd ∧ prodI t.dims = n ∧ PermOk t L wd n := by
  simp only [permB, Bool.and_eq_true] at h
  exact mkPerm h.1 h.2
theorem permT_yes {r : Rg} {t : Ten} {L : List Int} {wd : Nat} (h : permB r t L = true) (h1 : width r = wd) : permT r t L = permR wd t L := by
  rw [permT, if_pos h, h1]; rfl
theorem permR_sz {t : Ten} {L : List Int} {wd n m : Nat} (h : PermOk t L wd n) (ht : TSz m t) (hL : Sz m L) (hm : 24576 ≤ m) : TSz m (permR wd t L) := by
  refine ⟨hL, ⟨?_, fun d hd => ?_⟩, ⟨?_, fun x hx => ht.x.wf x (gath_mem x hx)⟩⟩
  · show (permD t L).length ≤ m
    have := hL.len
    simpa [permD] using this
  · have := h.dbd d hd
    exact ⟨by omega, by omega⟩
  · show (gath t.data wd (permOff t L) (permN t L)).length ≤ m
    rw [gath_len fun q _ => h.cut q]
    have h1 := h.pbd
    have h2 := h.pN
    have h3 := h.n1
    have h4 := h.w1
    have : permN t L * wd ≤ 4096 * 6 := Nat.mul_le_mul (by omega) h4.2
    omega
theorem permT_sz {r : Rg} {t : Ten} {L : List Int} (ht : TSz 1048576 t) (hL : Sz 1048576 L) : TSz 1048576 (permT r t L) := by
  by_cases ho : permB r t L = true
  · obtain ⟨wd, n, e1, e2, hP⟩ := permB_ok ho
    rw [permT_yes ho e1]
    exact permR_sz hP ht hL (by omega)
  · rw [permT, if_neg ho]
    exact ⟨⟨by simp, by simp⟩, ⟨by simp, by simp⟩, ⟨by simp, by simp⟩⟩
theorem iPermuteTensor_d {kk pp nn : Int} {t : Ten} {L : List Int} (a : I64 kk) (b : I64 pp) (c : I64 nn) (h : TSz 1048576 t) (hL : Sz 1048576 L) :
    Does Try.prog 48 [ringA kk pp nn, tenA t, .d (ints L)] [] (.tup [ownT 0 (permT ⟨kk, pp, nn⟩ t L), .d (.bool (permB ⟨kk, pp, nn⟩ t L))]) (stoF (permT ⟨kk, pp, nn⟩ t L)) := by
  (refine spec_of (by kernel_rfl) Try.func48 k_impl_PermuteTensor (fnOk (Nat.le_of_ble_eq_true rfl) ?_); unfold C_impl_PermuteTensor)
  (simp only [Nat.reduceSub, List.length_cons, List.length_nil, Nat.reduceAdd, ch_init1, ch_init2, ch_init3, ch_init4, ch_init5, ch_init6, ch_init7, ch_init8]; try simp only [ch_rep]); (simp only [go_sem, seval, reduceCtorEq, List.replicate])
  (refine ti_call (iTensorOk_d (t := t) a b c h.up) ?_ ?_ ?_; (focus (simp only [go_sem, seval, reduceCtorEq]; done)); (first | rfl | (focus (simp only [go_sem]; done))))
  cases h1 : tensorOk ⟨kk, pp, nn⟩ t.labels t.dims t.data
  · have e1 : permB ⟨kk, pp, nn⟩ t L = false := by simp [permB, h1]
    have e2 : permT ⟨kk, pp, nn⟩ t L = ⟨[], [], []⟩ := by simp [permT, e1]
    simp only [go_sem, seval, reduceCtorEq, h1, e1, e2]
    refine FnEnd.wk (Wk.trans (Wk.nilS 2 0 1 _ _ _ rfl rfl) (Wk.trans (Wk.nilS 2 1 1 _ _ _ rfl rfl) (Wk.trans (Wk.nilS 2 2 1 _ _ _ rfl rfl) Wk.nogA))) ?_
    (refine FnEnd.mk (Nat.le_of_ble_eq_true rfl) rfl (of_decide_eq_true rfl) ?_ ?_ <;> try simp only [go_sem, seval, reduceCtorEq])
  simp only [go_sem, seval, reduceCtorEq, h1]
  (refine ti_call (sameLabels_d (ls := t.labels) (L := L) h.l.up.len hL.up.len) ?_ ?_ ?_; (focus (simp only [go_sem, seval, reduceCtorEq]; done)); (first | rfl | (focus (simp only [go_sem]; done))))
  cases h2 : sameB t.labels L
  · have e1 : permB ⟨kk, pp, nn⟩ t L = false := by simp [permB, h2]
    have e2 : permT ⟨kk, pp, nn⟩ t L = ⟨[], [], []⟩ := by simp [permT, e1]
    simp only [go_sem, seval, reduceCtorEq, h2, e1, e2]
    refine FnEnd.wk (Wk.trans (Wk.nilS 2 0 1 _ _ _ rfl rfl) (Wk.trans (Wk.nilS 2 1 1 _ _ _ rfl rfl) (Wk.trans (Wk.nilS 2 2 1 _ _ _ rfl rfl) Wk.nogA))) ?_
    (refine FnEnd.mk (Nat.le_of_ble_eq_true rfl) rfl (of_decide_eq_true rfl) ?_ ?_ <;> try simp only [go_sem, seval, reduceCtorEq])
  have ho : permB ⟨kk, pp, nn⟩ t L = true := by simp [permB, h1, h2]
  obtain ⟨wd, n, e1, e2, hP⟩ := permB_ok ho
  have e3 := permT_yes ho e1
  simp only [go_sem, seval, reduceCtorEq, h2]
  (refine ti_call (rawPermute_d e1 hP h hL) ?_ ?_ ?_; (focus (simp only [go_sem, seval, reduceCtorEq]; done)); (first | rfl | (focus (simp only [go_sem]; done))))
  simp only [go_sem, seval, reduceCtorEq, ho, e3]
  refine FnEnd.wk Wk.nogA ?_
  (refine FnEnd.mk (Nat.le_of_ble_eq_true rfl) rfl (of_decide_eq_true rfl) ?_ ?_ <;> try simp only [go_sem, seval, reduceCtorEq])
theorem sPermuteTensor_d {kk pp nn : Int} {t : Ten} {L : List Int} (a : I64 kk) (b : I64 pp) (c : I64 nn) (h : TSz 1048576 t) (hL : Sz 1048576 L) :
    Does Try.prog 47 [ringA kk pp nn, tenA t, .d (ints L)] [] (.tup [ownT 0 (permT ⟨kk, pp, nn⟩ t L), .d (.bool (permB ⟨kk, pp, nn⟩ t L))]) (stoF (permT ⟨kk, pp, nn⟩ t L)) := by
  (refine spec_of (by kernel_rfl) Try.func47 k_spec_PermuteTensor (fnOk (Nat.le_of_ble_eq_true rfl) ?_); unfold C_spec_PermuteTensor)
  (simp only [Nat.reduceSub, List.length_cons, List.length_nil, Nat.reduceAdd, ch_init1, ch_init2, ch_init3, ch_init4, ch_init5, ch_init6, ch_init7, ch_init8]; try simp only [ch_rep]); (simp only [go_sem, seval, reduceCtorEq, List.replicate])
  (refine ti_call (sTensorOk_d (t := t) a b c h.up) ?_ ?_ ?_; (focus (simp only [go_sem, seval, reduceCtorEq]; done)); (first | rfl | (focus (simp only [go_sem]; done))))
  cases h1 : tensorOk ⟨kk, pp, nn⟩ t.labels t.dims t.data
  · have e1 : permB ⟨kk, pp, nn⟩ t L = false := by simp [permB, h1]
    have e2 : permT ⟨kk, pp, nn⟩ t L = ⟨[], [], []⟩ := by simp [permT, e1]
    simp only [go_sem, seval, reduceCtorEq, h1, e1, e2]
    refine FnEnd.wk (Wk.trans (Wk.nilS 2 0 1 _ _ _ rfl rfl) (Wk.trans (Wk.nilS 2 1 1 _ _ _ rfl rfl) (Wk.trans (Wk.nilS 2 2 1 _ _ _ rfl rfl) Wk.nogA))) ?_
    (refine FnEnd.mk (Nat.le_of_ble_eq_true rfl) rfl (of_decide_eq_true rfl) ?_ ?_ <;> try simp only [go_sem, seval, reduceCtorEq])
  simp only [go_sem, seval, reduceCtorEq, h1]
  (refine ti_call (l06Set_d (ls := t.labels) (L := L) h.l.up.len hL.up.len) ?_ ?_ ?_; (focus (simp only [go_sem, seval, reduceCtorEq]; done)); (first | rfl | (focus (simp only [go_sem]; done))))
  cases h2 : sameB t.labels L
  · have e1 : permB ⟨kk, pp, nn⟩ t L = false := by simp [permB, h2]
    have e2 : permT ⟨kk, pp, nn⟩ t L = ⟨[], [], []⟩ := by simp [permT, e1]
    simp only [go_sem, seval, reduceCtorEq, h2, e1, e2]
    refine FnEnd.wk (Wk.trans (Wk.nilS 2 0 1 _ _ _ rfl rfl) (Wk.trans (Wk.nilS 2 1 1 _ _ _ rfl rfl) (Wk.trans (Wk.nilS 2 2 1 _ _ _ rfl rfl) Wk.nogA))) ?_
    (refine FnEnd.mk (Nat.le_of_ble_eq_true rfl) rfl (of_decide_eq_true rfl) ?_ ?_ <;> try simp only [go_sem, seval, reduceCtorEq])
  have ho : permB ⟨kk, pp, nn⟩ t L = true := by simp [permB, h1, h2]
  obtain ⟨wd, n, e1, e2, hP⟩ := permB_ok ho
  have e3 := permT_yes ho e1
  simp only [go_sem, seval, reduceCtorEq, h2]
  (refine ti_call (l06Permute_d e1 hP h hL) ?_ ?_ ?_; (focus (simp only [go_sem, seval, reduceCtorEq]; done)); (first | rfl | (focus (simp only [go_sem]; done))))
  simp only [go_sem, seval, reduceCtorEq, ho, e3]
  refine FnEnd.wk Wk.nogA ?_
  (refine FnEnd.mk (Nat.le_of_ble_eq_true rfl) rfl (of_decide_eq_true rfl) ?_ ?_ <;> try simp only [go_sem, seval, reduceCtorEq])
end Go.Proofs.Ytmgifmgdfldheaa
