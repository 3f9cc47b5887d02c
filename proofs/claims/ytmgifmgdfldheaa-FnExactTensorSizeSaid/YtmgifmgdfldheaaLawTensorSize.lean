/-
  The law FnExactTensorSize returns true at every input. No condition.
-/
import Derived.Test.YtmgifmgdfldheaaSize2
import Derived.Test.YtmgifmgdfldheaaSize3
import Derived.Test.YtmgifmgdfldheaaOpen
import Derived.Deep.RegionHeld3
namespace Go.Proofs.Ytmgifmgdfldheaa
open Go.RowKit Plain

set_option maxHeartbeats 1000000 in
theorem law_TensorSize (w : World) {A0 : Option Addr} {n0 c0 : Nat} {A1 : Option Addr} {n1 c1 : Nat} {A2 : Option Addr} {n2 c2 : Nat} {t : Ten} (hin : TnIn w A0 n0 c0 A1 n1 c1 A2 n2 c2 t) :
    Calls Try.prog 3 #[.agg #[.slice A0 n0 c0, .slice A1 n1 c1, .slice A2 n2 c2]] w (RetV w (.bool true)) := by
  have h := hin.ten
  have k0 := hin.l.len
  have k1 := hin.d.len
  have k2 := hin.x.len
  clear hin
  have hb0 : Below w.heap.size w (w.alloc (.cells #[.slice A0 n0 c0, .slice A1 n1 c1, .slice A2 n2 c2] 24)) := (Below.refl _ _).alloc (Nat.le_refl _) _
  go_enter Try.func3, Try.ntmps3
  go_wp2_with fail
  refine (szTensor_any _ _ _ _ _ _ _ _ _ 1048576 _ (by omega) (by omega) k0 k1 k2).mono ?_
  rintro e w1 ⟨rfl, hb1⟩
  have hz1 : w.heap.size + 1 ≤ w1.heap.size := by have := hb1.size; simpa using this
  have hB1 : Below w.heap.size w w1 := hb0.trans (hb1.mono (by simp))
  obtain ⟨hc1, hf1⟩ := bcell (hb1.mono (B' := w.heap.size + 1) (by simp))
  clear hb1 hb0
  by_cases hbig : (n0 : Int) + n1 + n2 ≤ 1048576
  case neg =>
    rw [show szT 1048576 n0 n1 n2 = -1 from if_neg hbig]
    go_wp2_with fail
    go_ret
    exact ⟨rfl, hB1⟩
  rw [show szT 1048576 n0 n1 n2 = 1048576 - n0 - n1 - n2 from if_pos hbig]
  go_wp2_with fail
  have L0 : t.labels.length ≤ 1048576 := by rw [h.l.len]; omega
  have L1 : t.dims.length ≤ 1048576 := by rw [h.d.len]; omega
  have L2 : t.data.length ≤ 1048576 := by rw [h.x.len]; omega
  refine (toTensor_any _ _ _ _ _ _ _ _ _ t _ ((h.below hB1 (Nat.le_refl _)).mono (by omega)) (by omega) (by omega) (by omega)).mono ?_
  rintro e w2 ⟨B0, d0, B1, d1, B2, d2, rfl, own1, hb2⟩
  have hz2 : w1.heap.size ≤ w2.heap.size := hb2.size
  have hB2 : Below w.heap.size w w2 := hB1.trans (hb2.mono (by omega))
  obtain ⟨hc2, hf2⟩ := bcell (hb2.mono (B' := w.heap.size + 1) (by omega))
  clear hb2
  go_wp2_with fail
  refine (sTensorSize _ _ _ _ _ _ _ _ _ t.labels t.dims _ own1.l.ints own1.d.ints (by omega) (by omega) own1.l.cap).mono ?_
  rintro e w3 ⟨rfl, hb3⟩
  have hz3 : w2.heap.size ≤ w3.heap.size := hb3.size
  have hB3 : Below w.heap.size w w3 := hB2.trans (hb3.mono (by omega))
  obtain ⟨hc3, hf3⟩ := bcell (hb3.mono (B' := w.heap.size + 1) (by omega))
  clear hb3
  go_wp2_with fail
  refine (toTensor_any _ _ _ _ _ _ _ _ _ t _ ((h.below hB3 (Nat.le_refl _)).mono (by omega)) (by omega) (by omega) (by omega)).mono ?_
  rintro e w4 ⟨C0, e0, C1, e1, C2, e2, rfl, own2, hb4⟩
  have hz4 : w3.heap.size ≤ w4.heap.size := hb4.size
  have hB4 : Below w.heap.size w w4 := hB3.trans (hb4.mono (by omega))
  obtain ⟨hc4, hf4⟩ := bcell (hb4.mono (B' := w.heap.size + 1) (by omega))
  clear hb4
  go_wp2_with fail
  have hB4' := hB4.alloc (o := .cells #[.slice C0 t.labels.length e0, .slice C1 t.dims.length e1, .slice C2 t.data.length e2] 27) (by omega)
  have hA4 : Below w4.heap.size w4 (w4.alloc (.cells #[.slice C0 t.labels.length e0, .slice C1 t.dims.length e1, .slice C2 t.data.length e2] 27)) := (Below.refl _ _).alloc (Nat.le_refl _) _
  replace own2 := own2.old hA4
  refine (iTensorSize _ _ _ _ _ _ _ _ _ t.labels t.dims _ (own2.l.ints.mono (by simp)) (own2.d.ints.mono (by simp)) (by omega) (by omega) own2.l.cap).mono ?_
  rintro e w5 ⟨rfl, hb5⟩
  have hz5 : w4.heap.size + 1 ≤ w5.heap.size := by have := hb5.size; simpa using this
  have hB5 : Below w.heap.size w w5 := hB4'.trans (hb5.mono (by simp; omega))
  replace own2 := own2.old hb5
  obtain ⟨hc5, hf5⟩ := bcell (hb5.mono (B' := w4.heap.size + 1) (by simp))
  clear hb5 hA4 hB4'
  go_wp2_with fail
  have m0 : w5.cell? ⟨w4.heap.size, 0, none⟩ = some (.slice C0 t.labels.length e0) := by rw [hc5 _ _ (by omega)]; simp
  have m1 : w5.cell? ⟨w4.heap.size, 1, none⟩ = some (.slice C1 t.dims.length e1) := by rw [hc5 _ _ (by omega)]; simp
  have m2 : w5.cell? ⟨w4.heap.size, 2, none⟩ = some (.slice C2 t.data.length e2) := by rw [hc5 _ _ (by omega)]; simp
  have q0 : w5.cell? ⟨w.heap.size, 0, none⟩ = some (.slice A0 n0 c0) := by rw [hc5 _ _ (by omega), World.cell?_alloc_lt _ _ _ (by simp; omega), hc4 _ _ (by omega), hc3 _ _ (by omega), hc2 _ _ (by omega), hc1 _ _ (by omega)]; simp
  have q1 : w5.cell? ⟨w.heap.size, 1, none⟩ = some (.slice A1 n1 c1) := by rw [hc5 _ _ (by omega), World.cell?_alloc_lt _ _ _ (by simp; omega), hc4 _ _ (by omega), hc3 _ _ (by omega), hc2 _ _ (by omega), hc1 _ _ (by omega)]; simp
  have q2 : w5.cell? ⟨w.heap.size, 2, none⟩ = some (.slice A2 n2 c2) := by rw [hc5 _ _ (by omega), World.cell?_alloc_lt _ _ _ (by simp; omega), hc4 _ _ (by omega), hc3 _ _ (by omega), hc2 _ _ (by omega), hc1 _ _ (by omega)]; simp
  clear hc1 hf1 hc2 hf2 hc3 hf3 hc4 hf4 hc5 hf5
  go_region_held3 (fun W => W.cell? ⟨w4.heap.size, 0, none⟩ = some (.slice C0 t.labels.length e0) ∧ W.cell? ⟨w4.heap.size, 1, none⟩ = some (.slice C1 t.dims.length e1) ∧ W.cell? ⟨w4.heap.size, 2, none⟩ = some (.slice C2 t.data.length e2) ∧
      W.cell? ⟨w.heap.size, 0, none⟩ = some (.slice A0 n0 c0) ∧ W.cell? ⟨w.heap.size, 1, none⟩ = some (.slice A1 n1 c1) ∧ W.cell? ⟨w.heap.size, 2, none⟩ = some (.slice A2 n2 c2))
    (first | exact ⟨m0, m1, m2, q0, q1, q2⟩ | exact S6 | exact S7)
    (first
      | (go_at_call 17; refine (toTensor_any _ _ _ _ _ _ _ _ _ t _ ((h.below hB5.drew (Nat.le_refl _)).mono (by simp; omega)) (by omega) (by omega) (by omega)).mono ?_; rintro e w6 ⟨D0, f0, D1, f1, D2, f2, rfl, own3, hb6⟩
         have hb6' : Below w5.heap.size w5 w6 := ⟨hb6.os, hb6.tape, hb6.output, hb6.size, hb6.block⟩
         have S6 : w6.cell? ⟨w4.heap.size, 0, none⟩ = some (.slice C0 t.labels.length e0) ∧ w6.cell? ⟨w4.heap.size, 1, none⟩ = some (.slice C1 t.dims.length e1) ∧ w6.cell? ⟨w4.heap.size, 2, none⟩ = some (.slice C2 t.data.length e2) ∧
           w6.cell? ⟨w.heap.size, 0, none⟩ = some (.slice A0 n0 c0) ∧ w6.cell? ⟨w.heap.size, 1, none⟩ = some (.slice A1 n1 c1) ∧ w6.cell? ⟨w.heap.size, 2, none⟩ = some (.slice A2 n2 c2) := by
           obtain ⟨hc6, _⟩ := bcell hb6'
           refine ⟨?_, ?_, ?_, ?_, ?_, ?_⟩ <;> (rw [hc6 _ _ (by omega)]; assumption))
      | (go_at_call 19; refine (eqTensor_same _ _ _ _ _ _ _ _ _ _ _ _ _ _ _ _ _ _ t _ ((own2.old hb6').tens.mono (by have := hb6'.size; omega)) own3.tens (by omega) (by omega) (by omega)).mono ?_; rintro e w7 ⟨rfl, hb7⟩
         have S7 : w7.cell? ⟨w4.heap.size, 0, none⟩ = some (.slice C0 t.labels.length e0) ∧ w7.cell? ⟨w4.heap.size, 1, none⟩ = some (.slice C1 t.dims.length e1) ∧ w7.cell? ⟨w4.heap.size, 2, none⟩ = some (.slice C2 t.data.length e2) ∧
           w7.cell? ⟨w.heap.size, 0, none⟩ = some (.slice A0 n0 c0) ∧ w7.cell? ⟨w.heap.size, 1, none⟩ = some (.slice A1 n1 c1) ∧ w7.cell? ⟨w.heap.size, 2, none⟩ = some (.slice A2 n2 c2) := by
           have hs6 := hb6'.size
           obtain ⟨hc7, _⟩ := bcell hb7
           obtain ⟨s1, s2, s3, s4, s5, s6⟩ := S6
           refine ⟨?_, ?_, ?_, ?_, ?_, ?_⟩ <;> (rw [hc7 _ _ (by omega)]; assumption)))
  go_wp2_with fail
  go_ret
  exact ⟨rfl, (hB5.trans (hb6'.mono (by omega))).trans (hb7.mono (by have := hb6'.size; omega))⟩

end Go.Proofs.Ytmgifmgdfldheaa
