/-
  Contracts: diagonals of tensors. No condition.
-/
import Derived.Test.YtmgifmgdfldheaaConN
namespace Go.Proofs.Ytmgifmgdfldheaa
open Go.RowKit Go.Lift Plain
set_option linter.unusedSimpArgs false
set_option linter.unusedVariables false
set_option maxRecDepth 100000

/-- A diagonal: where it can be taken. -/
structure DiaOk (t : Ten) (a b : Int) (wd n ja jb : Nat) : Prop where
  s : SliOk t b 0 wd n jb
  al : ja < t.labels.length
  ax : t.labels[ja]? = some a
  ne : ja ≠ jb
  eq : t.dims.getD ja 0 = t.dims.getD jb 0
def diaS (t : Ten) (a b : Int) : List Int := (wo t.labels b).map fun l => strideL t.labels t.dims l + if l = a then strideL t.labels t.dims b else 0
def diaOff (t : Ten) (a b : Int) (jb i : Nat) : Nat := (dotI (diaS t a b) (digits (sliD t jb) i)).toNat
def diaR (wd : Nat) (t : Ten) (a b : Int) (jb : Nat) : Ten := ⟨wo t.labels b, sliD t jb, gath t.data wd (diaOff t a b jb) (sliN t jb)⟩
/-- The index by labels. -/
def diaV (W xs : List Int) (a b l : Int) : Int := if l = b then atL W xs a else atL W xs l
namespace DiaOk
variable {t : Ten} {a b : Int} {wd n ja jb : Nat}
theorem la (h : DiaOk t a b wd n ja jb) : t.labels[ja]'h.al = a := by have := h.ax; rw [List.getElem?_eq_getElem h.al] at this; simpa using this
theorem ab (h : DiaOk t a b wd n ja jb) : a ≠ b := fun e => h.ne (nodup_at h.s.nodup h.al h.s.jl (h.la.trans (e.trans h.s.lx.symm)))
theorem aW (h : DiaOk t a b wd n ja jb) : a ∈ wo t.labels b := wo_mem.2 ⟨by rw [← h.la]; exact List.getElem_mem _, h.ab⟩
theorem place (h : DiaOk t a b wd n ja jb) : Plain.place t.labels a = ja := by have := place_at h.al (fresh_of h.s.nodup h.al); rwa [h.la] at this
theorem wn (h : DiaOk t a b wd n ja jb) : (wo t.labels b).Nodup := List.Nodup.sublist List.filter_sublist h.s.nodup
theorem len (h : DiaOk t a b wd n ja jb) : (diaS t a b).length = (wo t.labels b).length := by simp [diaS]
theorem offE (h : DiaOk t a b wd n ja jb) (i : Nat) : dotI (diaS t a b) (digits (sliD t jb) i) = offs t.dims (t.labels.map (diaV (wo t.labels b) (digits (sliD t jb) i) a b)) := by
  have hxl : (digits (sliD t jb) i).length = (wo t.labels b).length := by rw [digits_len, h.s.dlen]
  generalize digits (sliD t jb) i = xs at *
  have hwn := h.wn
  have haW := h.aW
  have hbW : b ∉ wo t.labels b := fun e => (wo_mem.1 e).2 rfl
  rw [offs_R (by simp [h.s.ax.len]), offsR_sum (diaV (wo t.labels b) xs a b) (b :: wo t.labels b) (List.nodup_cons.2 ⟨hbW, hwn⟩) _ _ h.s.ax.len h.s.nodup (fun l hl => by
    by_cases e : l = b
    · simp [e]
    · exact List.mem_cons_of_mem _ (wo_mem.2 ⟨hl, e⟩))]
  rw [List.map_cons, sumI_cons]
  have e1 : dotI (diaS t a b) xs = dotI (diaS t a b) ((wo t.labels b).map (atL (wo t.labels b) xs)) := by rw [atL_map hwn hxl]
  rw [e1, diaS, dotI_map]
  have e2 : (wo t.labels b).map (fun l => (strideL t.labels t.dims l + if l = a then strideL t.labels t.dims b else 0) * atL (wo t.labels b) xs l) =
      (wo t.labels b).map (fun l => strideL t.labels t.dims l * atL (wo t.labels b) xs l + if l = a then strideL t.labels t.dims b * atL (wo t.labels b) xs a else 0) := by
    refine List.map_congr_left fun l _ => ?_
    by_cases e : l = a
    · subst e; rw [if_pos rfl, if_pos rfl, Int.add_mul]
    · rw [if_neg e, if_neg e, Int.add_zero, Int.add_zero]
  rw [e2, sumI_map_add, sumI_map_one _ a _ hwn haW]
  have e3 : (wo t.labels b).map (fun l => strideL t.labels t.dims l * diaV (wo t.labels b) xs a b l) = (wo t.labels b).map (fun l => strideL t.labels t.dims l * atL (wo t.labels b) xs l) := by
    refine List.map_congr_left fun l hl => ?_
    rw [diaV, if_neg (wo_mem.1 hl).2]
  rw [e3, diaV, if_pos rfl]
  omega
theorem idx (h : DiaOk t a b wd n ja jb) (i : Nat) : idxOk t.dims (t.labels.map (diaV (wo t.labels b) (digits (sliD t jb) i) a b)) := by
  have key : ∀ l ∈ wo t.labels b, 0 ≤ atL (wo t.labels b) (digits (sliD t jb) i) l ∧ atL (wo t.labels b) (digits (sliD t jb) i) l < dimAt t l := fun l hl => by
    obtain ⟨q, h1, h2, h3, h4⟩ := atL_mem (xs := digits (sliD t jb) i) hl (by rw [digits_len, h.s.dlen])
    have hq : q < (sliD t jb).length := by rw [h.s.dlen]; exact h1
    have h5 := digits_bd (sliD t jb) i (fun d hd => (h.s.dbd d hd).1) q hq
    have h6 : (sliD t jb).getD q 0 = dimAt t l := by
      rw [getD_of hq]
      have h7 : (wo t.labels b)[q] = l := by rw [List.getElem?_eq_getElem h1] at h3; simpa using h3
      have h8 := h.s.dims
      have h9 : ((wo t.labels b).map (dimAt t))[q]'(by simpa using h1) = dimAt t l := by rw [List.getElem_map, h7]
      rw [← h9]
      simp only [h8]
    rw [h4, ← h6]
    exact h5
  refine ⟨by simp [h.s.ax.len], fun k hk => ?_⟩
  have hk' : k < t.labels.length := by have := h.s.ax.len; omega
  have hd := dimAt_at h.s.ax hk' hk
  unfold idxAt
  rw [getD_of (show k < (t.labels.map _).length by simpa using hk'), List.getElem_map, getD_of hk, ← hd]
  unfold diaV
  split
  · rename_i e
    have h1 := key a h.aW
    have h2 : dimAt t a = dimAt t t.labels[k] := by
      rw [e]
      have h3 := dimAt_at h.s.ax h.al (by have := h.s.ax.len; have := h.al; omega)
      have h4 := dimAt_at h.s.ax h.s.jl h.s.jd
      rw [h.la] at h3
      rw [h.s.lx] at h4
      have h5 := h.eq
      rw [getD_of (by have := h.s.ax.len; have := h.al; omega), getD_of h.s.jd] at h5
      rw [h3, h4, h5]
    omega
  · rename_i e
    exact key _ (wo_mem.2 ⟨List.getElem_mem hk', e⟩)
theorem off (h : DiaOk t a b wd n ja jb) (i : Nat) : dotI (diaS t a b) (digits (sliD t jb) i) = diaOff t a b jb i ∧ diaOff t a b jb i < n ∧ offs t.dims (t.labels.map (diaV (wo t.labels b) (digits (sliD t jb) i) a b)) = diaOff t a b jb i := by
  have h1 := h.offE i
  have h2 := offs_bd _ _ _ h.s.ax (h.idx i)
  have h3 := h.s.pn
  unfold diaOff
  rw [h1]
  omega
theorem cut (h : DiaOk t a b wd n ja jb) (i : Nat) : diaOff t a b jb i * wd + wd ≤ t.data.length := by
  rw [h.s.dl]; exact mul_step (h.off i).2.1
theorem dotb (h : DiaOk t a b wd n ja jb) (i k : Nat) : 0 ≤ (diaS t a b).getD k 0 * (digits (sliD t jb) i).getD k 0 ∧ (diaS t a b).getD k 0 * (digits (sliD t jb) i).getD k 0 ≤ 16777216 := by
  by_cases hk : k < (wo t.labels b).length
  · have hk2 : k < (sliD t jb).length := by rw [h.s.dlen]; exact hk
    have h1 := digits_bd (sliD t jb) i (fun d hd => (h.s.dbd d hd).1) k hk2
    have h2 := h.s.dbd ((sliD t jb).getD k 0) (by rw [getD_of hk2]; exact List.getElem_mem _)
    have h3 : 0 ≤ (diaS t a b).getD k 0 ∧ (diaS t a b).getD k 0 ≤ 8192 := by
      rw [getD_of (by rw [h.len]; exact hk)]
      simp only [diaS, List.getElem_map]
      have := h.s.sbd (wo t.labels b)[k]
      have := h.s.sbd b
      split <;> omega
    generalize (digits (sliD t jb) i).getD k 0 = y at *
    generalize (diaS t a b).getD k 0 = s at *
    refine ⟨Int.mul_nonneg h3.1 h1.1, ?_⟩
    have : s * y ≤ s * 8 := Int.mul_le_mul_of_nonneg_left (by omega) h3.1
    omega
  · have : (diaS t a b).getD k 0 = 0 := by simp [List.getD_eq_getElem?_getD, List.getElem?_eq_none (show (diaS t a b).length ≤ k by rw [h.len]; omega)]
    rw [this]; simp
end DiaOk
def diaB (r : Rg) (t : Ten) (a b : Int) : Bool := tensorOk r t.labels t.dims t.data && decide (a ∈ t.labels ∧ b ∈ t.labels ∧ a ≠ b ∧ dimAt t a = dimAt t b)
def diaT (r : Rg) (t : Ten) (a b : Int) : Ten := if diaB r t a b = true then diaR (width r).toNat t a b (place t.labels b).toNat else ⟨[], [], []⟩
theorem diaB_ok {r : Rg} {t : Ten} {a b : Int} (h : diaB r t a b = true) : ∃ wd n ja jb : Nat, width r = wd ∧ prodI t.dims = n ∧ DiaOk t a b wd n ja jb ∧ diaT r t a b = diaR wd t a b jb := by
  have ho := h
  simp only [diaB, Bool.and_eq_true, decide_eq_true_eq] at h
  obtain ⟨wd, n, e1, e2, e3, e4, e5, e6, e7, e8, e9, e10⟩ := ten_facts h.1
  obtain ⟨ja, a1, a2, a3, a4⟩ := dimAt_get e10.len h.2.1
  obtain ⟨ja', a5, a6, a7, _⟩ := place_mem h.2.1
  obtain ⟨jb, b1, b2, b3, b4⟩ := dimAt_get e10.len h.2.2.1
  obtain ⟨jb', b5, b6, b7, _⟩ := place_mem h.2.2.1
  obtain rfl : ja = ja' := by omega
  obtain rfl : jb = jb' := by omega
  have hda : t.dims.getD ja 0 = dimAt t a := by rw [List.getD_eq_getElem?_getD, a4]; rfl
  have hdb : t.dims.getD jb 0 = dimAt t b := by rw [List.getD_eq_getElem?_getD, b4]; rfl
  have hbd := dimAt_bd e10 h.2.2.1
  refine ⟨wd, n, ja, jb, e1, e2, ⟨⟨e10, e2, ⟨e5, e6⟩, ⟨e3, e4⟩, e7, b1, by rw [List.getElem?_eq_getElem b1, b7], by omega⟩, a1, by rw [List.getElem?_eq_getElem a1, a7], ?_, by rw [hda, hdb]; exact h.2.2.2.2⟩, ?_⟩
  · intro e
    subst e
    exact h.2.2.2.1 (a7.symm.trans b7)
  · rw [diaT, if_pos ho, e1, b3]; rfl
theorem diaT_sz {r : Rg} {t : Ten} {a b : Int} (ht : TSz 1048576 t) : TSz 1048576 (diaT r t a b) := by
  by_cases ho : diaB r t a b = true
  · obtain ⟨wd, n, ja, jb, e1, e2, h, e3⟩ := diaB_ok ho
    rw [e3]
    refine ⟨⟨Nat.le_trans (wo_len _ _) ht.l.len, fun y hy => ht.l.wf y (wo_mem.1 hy).1⟩, ⟨?_, fun d hd => ?_⟩, ⟨?_, fun y hy => ht.x.wf y (gath_mem y hy)⟩⟩
    · show (sliD t jb).length ≤ _
      rw [h.s.dlen]
      exact Nat.le_trans (wo_len _ _) ht.l.len
    · have := h.s.dbd d hd
      exact ⟨by omega, by omega⟩
    · show (gath t.data wd (diaOff t a b jb) (sliN t jb)).length ≤ _
      rw [gath_len fun q _ => h.cut q]
      have h1 := h.s.nN
      have h3 := h.s.n1
      have h4 := h.s.w1
      have : sliN t jb * wd ≤ 4096 * 6 := Nat.mul_le_mul (by omega) h4.2
      omega
  · rw [diaT, if_neg ho]
    exact ⟨⟨by simp, by simp⟩, ⟨by simp, by simp⟩, ⟨by simp, by simp⟩⟩
end Go.Proofs.Ytmgifmgdfldheaa
