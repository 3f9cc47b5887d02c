/-
  Contracts: TensorOk, in the program and in the reference. No condition.
-/
import Derived.Test.YtmgifmgdfldheaaElem
import Derived.Test.YtmgifmgdfldheaaRegion
namespace Go.Proofs.Ytmgifmgdfldheaa
open Go.RowKit Plain

theorem tensorOk_no1 {r : Rg} {ls ds xs : List Int} (h : ringOk r = false) : tensorOk r ls ds xs = false := by simp [tensorOk, h]
theorem tensorOk_no2 {r : Rg} {ls ds xs : List Int} (h : tsize ls ds = -1) : tensorOk r ls ds xs = false := by simp [tensorOk, h]
theorem tensorOk_no3 {r : Rg} {ls ds xs : List Int} (h : ¬ (xs.length : Int) = tsize ls ds * width r) : tensorOk r ls ds xs = false := by simp [tensorOk, h]
theorem tensorOk_yes {r : Rg} {ls ds xs : List Int} (h : ringOk r = true) (h1 : tsize ls ds ≠ -1) (h2 : (xs.length : Int) = tsize ls ds * width r) : tensorOk r ls ds xs = fitsB r xs := by simp [tensorOk, h, h1, h2]

section
variable {W : World} {k p n : Int} {A0 : Option Addr} {n0 c0 : Nat} {A1 : Option Addr} {n1 c1 : Nat} {A2 : Option Addr} {n2 c2 : Nat} {t : Ten}

set_option maxHeartbeats 1600000 in
theorem iTensorOk_c (_ : I64 k) (_ : I64 p) (_ : I64 n) (h : TnOk W A0 n0 c0 A1 n1 c1 A2 n2 c2 t) :
    Calls Try.prog 33 #[.agg #[.int .i64 k, .int .i64 p, .int .i64 n], .agg #[.slice A0 n0 c0, .slice A1 n1 c1, .slice A2 n2 c2]] W (RetV W (.bool (tensorOk ⟨k, p, n⟩ t.labels t.dims t.data))) := by
  have st0 := (Step.alloc W (.cells #[.int .i64 k, .int .i64 p, .int .i64 n] 45)).trans (Step.alloc (W.alloc (.cells #[.int .i64 k, .int .i64 p, .int .i64 n] 45)) (.cells #[.slice A0 n0 c0, .slice A1 n1 c1, .slice A2 n2 c2] 27))
  have hl2 := Lib.hid h.x.at_.len
  have hx2 := h.x.len
  go_enter Try.func33, Try.ntmps33
  go_wp2_with fail
  refine (iRingOk_c k p n _).mono ?_
  rintro e w1 ⟨rfl, st1⟩
  have hs1 : W.heap.size + 2 ≤ w1.heap.size := by have := Below.size st1; simpa using this
  obtain ⟨hc1, _⟩ := bcell (Below.mono st1 (B' := W.heap.size + 2) (by simp))
  rcases Bool.eq_false_or_eq_true (ringOk ⟨k, p, n⟩) with hr | hr
  case inr =>
    have HE := Lib.hid (tensorOk_no1 (ls := t.labels) (ds := t.dims) (xs := t.data) hr)
    rw [hr]
    clear hr
    go_wp2_with fail
    go_ret
    exact ⟨ret_bool HE.out.symm, st0.trans st1⟩
  have HR := Lib.hid hr
  rw [hr]
  clear hr
  go_wp2_with fail
  refine (iTensorSize_c ((h.step st0).step st1)).mono ?_
  rintro e w2 ⟨rfl, st2⟩
  have hs2 : w1.heap.size ≤ w2.heap.size := Below.size st2
  obtain ⟨hc2, _⟩ := bcell (Below.mono st2 (B' := W.heap.size + 2) (by omega))
  have m0 : w2.cell? ⟨W.heap.size, 0, none⟩ = some (.int .i64 k) := by rw [hc2 _ _ (by omega), hc1 _ _ (by omega)]; simp
  have m1 : w2.cell? ⟨W.heap.size, 1, none⟩ = some (.int .i64 p) := by rw [hc2 _ _ (by omega), hc1 _ _ (by omega)]; simp
  have m2 : w2.cell? ⟨W.heap.size, 2, none⟩ = some (.int .i64 n) := by rw [hc2 _ _ (by omega), hc1 _ _ (by omega)]; simp
  have m3 : w2.cell? ⟨W.heap.size + 1, 2, none⟩ = some (.slice A2 n2 c2) := by rw [hc2 _ _ (by omega), hc1 _ _ (by omega)]; simp
  clear hc1 hc2
  have st02 : Step W w2 := (st0.trans st1).trans st2
  have hx := ((h.x.step st0).step st1).step st2
  clear h st0 st1 st2 hs1
  by_cases hts : tsize t.labels t.dims = -1
  · have HE := Lib.hid (tensorOk_no2 (r := ⟨k, p, n⟩) (xs := t.data) hts)
    rw [hts]
    clear hts
    go_wp2_with fail
    go_quiet (fail)
    go_wp2_with fail
    go_ret
    exact ⟨ret_bool HE.out.symm, st02.trans (below_drewN (Below.refl _ _) _)⟩
  have hbt : (tsize t.labels t.dims == -1) = false := by simpa using hts
  have hbt2 : (tsize t.labels t.dims != -1) = true := by simpa using hts
  have HT := Lib.hid hts
  rcases tsize_cases t.labels t.dims with hs | ⟨_, hp, hs, hp1⟩
  · exact absurd hs hts
  rw [← hs] at hp hp1
  obtain ⟨b1, b2⟩ := width_bd HR.out
  have hw1 : 1 ≤ tsize t.labels t.dims * width ⟨k, p, n⟩ := by have := Int.mul_pos (a := tsize t.labels t.dims) (b := width ⟨k, p, n⟩) (by omega) (by omega); omega
  have hw2 : tsize t.labels t.dims * width ⟨k, p, n⟩ ≤ 24576 := by have := Int.mul_le_mul (a := tsize t.labels t.dims) (b := width ⟨k, p, n⟩) (c := 4096) (d := 6) hp b2 (by omega) (by omega); omega
  clear hs hts
  by_cases hw : (n2 : Int) = tsize t.labels t.dims * width ⟨k, p, n⟩
  · have hb : ((n2 : Int) == tsize t.labels t.dims * width ⟨k, p, n⟩) = true := by simpa using hw
    have HE := Lib.hid (tensorOk_yes HR.out HT.out (by rw [hl2.out]; exact hw))
    clear hw
    have hwr : IntKind.i64.wrap (tsize t.labels t.dims * width ⟨k, p, n⟩) = tsize t.labels t.dims * width ⟨k, p, n⟩ := IntWalk.i64_in _ (by omega)
    generalize tsize t.labels t.dims = s at *
    go_wp2_with fail
    refine wp_region_held_drew (S := (fun W' => W'.cell? ⟨W.heap.size, 0, none⟩ = some (.int .i64 k) ∧ W'.cell? ⟨W.heap.size, 1, none⟩ = some (.int .i64 p) ∧ W'.cell? ⟨W.heap.size, 2, none⟩ = some (.int .i64 n) ∧ W'.cell? ⟨W.heap.size + 1, 2, none⟩ = some (.slice A2 n2 c2))) (by kernel_rfl) ?_ (fun hHeld => ?_)
    · exact ⟨m0, m1, m2, m3⟩
    refine takeL (fuel := 18) (v := ?_) 0 rfl (by kernel_rfl) (by kernel_rfl) (by kernel_rfl) (fun _ _ _ h => h) (by rfl) ?_ hHeld ?_
    rotate_left
    · intro w hSw; (try dsimp only at hSw); (first | (go_simp; done) | (go_simp; with_reducible rfl))
    simp only [Act.put, List.setIfInBounds_toArray, List.set_cons_zero, List.set_cons_succ]
    refine takeL (fuel := 17) (v := ?_) 1 rfl (by kernel_rfl) (by kernel_rfl) (by kernel_rfl) (fun _ _ _ h => h) (by rfl) ?_ hHeld ?_
    rotate_left
    · intro w hSw; (try dsimp only at hSw); (first | (go_simp; done) | (go_simp; with_reducible rfl))
    simp only [Act.put, List.setIfInBounds_toArray, List.set_cons_zero, List.set_cons_succ]
    refine takeL (fuel := 16) (v := ?_) 2 rfl (by kernel_rfl) (by kernel_rfl) (by kernel_rfl) (fun _ _ _ h => h) (by rfl) ?_ hHeld ?_
    rotate_left
    · intro w hSw; (try dsimp only at hSw); (first | (go_simp; done) | (go_simp; with_reducible rfl))
    simp only [Act.put, List.setIfInBounds_toArray, List.set_cons_zero, List.set_cons_succ]
    refine takeL (fuel := 15) (v := ?_) 3 rfl (by kernel_rfl) (by kernel_rfl) (by kernel_rfl) (fun _ _ _ h => h) (by rfl) ?_ hHeld ?_
    rotate_left
    · intro w hSw; (try dsimp only at hSw); (first | (go_simp; done) | (go_simp; with_reducible rfl))
    simp only [Act.put, List.setIfInBounds_toArray, List.set_cons_zero, List.set_cons_succ]
    refine takeL (fuel := 14) (v := ?_) 4 rfl (by kernel_rfl) (by kernel_rfl) (by kernel_rfl) (fun _ _ _ h => h) (by rfl) ?_ hHeld ?_
    rotate_left
    · intro w hSw; (try dsimp only at hSw); (first | (go_simp; done) | (go_simp; with_reducible rfl))
    simp only [Act.put, List.setIfInBounds_toArray, List.set_cons_zero, List.set_cons_succ]
    refine takeL (fuel := 13) (v := ?_) 5 rfl (by kernel_rfl) (by kernel_rfl) (by kernel_rfl) (fun _ _ _ h => h) (by rfl) ?_ hHeld ?_
    rotate_left
    · intro w hSw; (try dsimp only at hSw); (first | (go_simp; done) | (go_simp; with_reducible rfl))
    simp only [Act.put, List.setIfInBounds_toArray, List.set_cons_zero, List.set_cons_succ]
    refine takeL (fuel := 12) (v := ?_) 6 rfl (by kernel_rfl) (by kernel_rfl) (by kernel_rfl) (fun _ _ _ h => h) (by rfl) ?_ hHeld ?_
    rotate_left
    · intro w hSw; (try dsimp only at hSw); (first | (go_simp; done) | (go_simp; with_reducible rfl))
    simp only [Act.put, List.setIfInBounds_toArray, List.set_cons_zero, List.set_cons_succ]
    refine takeL (fuel := 11) (v := ?_) 7 rfl (by kernel_rfl) (by kernel_rfl) (by kernel_rfl) (fun _ _ _ h => h) (by rfl) ?_ hHeld ?_
    rotate_left
    · intro w hSw; (try dsimp only at hSw); (first | (go_simp; done) | (go_simp; with_reducible rfl))
    simp only [Act.put, List.setIfInBounds_toArray, List.set_cons_zero, List.set_cons_succ]
    refine callL (fuel := 10) 8 rfl (by kernel_rfl) (fun K hK => ?_)
    go_simp
    refine (rawWidth_c k p n _).mono ?_
    rintro e w3 ⟨rfl, st3⟩
    have st3' : Step _ _ := st3
    try simp only []
    refine hK.out _ _ ?_ (fun hHeld => ?_)
    · (first | exact ⟨m0, m1, m2, m3⟩ | (refine ⟨?_, ?_, ?_, ?_⟩ <;> (focus (repeat (first | assumption | refine cell_step (by assumption) ?_ | refine cell_step (Step.drew _) ?_)))))
    clear hK K
    try simp only [Act.put, List.setIfInBounds_toArray, List.set_cons_zero, List.set_cons_succ]
    refine takeL (fuel := 9) (v := ?_) 9 rfl (by kernel_rfl) (by kernel_rfl) (by kernel_rfl) (fun _ _ _ h => h) (by rfl) ?_ hHeld ?_
    rotate_left
    · intro w hSw; (try dsimp only at hSw); (first | (go_simp; done) | (go_simp; with_reducible rfl))
    simp only [Act.put, List.setIfInBounds_toArray, List.set_cons_zero, List.set_cons_succ]
    refine takeL (fuel := 8) (v := ?_) 10 rfl (by kernel_rfl) (by kernel_rfl) (by kernel_rfl) (fun _ _ _ h => h) (by rfl) ?_ hHeld ?_
    rotate_left
    · intro w hSw; (try dsimp only at hSw); (first | (go_simp; done) | (go_simp; with_reducible rfl))
    simp only [Act.put, List.setIfInBounds_toArray, List.set_cons_zero, List.set_cons_succ]
    refine takeL (fuel := 7) (v := ?_) 11 rfl (by kernel_rfl) (by kernel_rfl) (by kernel_rfl) (fun _ _ _ h => h) (by rfl) ?_ hHeld ?_
    rotate_left
    · intro w hSw; (try dsimp only at hSw); (first | (go_simp; done) | (go_simp; with_reducible rfl))
    simp only [Act.put, List.setIfInBounds_toArray, List.set_cons_zero, List.set_cons_succ]
    refine takeL (fuel := 6) (v := ?_) 12 rfl (by kernel_rfl) (by kernel_rfl) (by kernel_rfl) (fun _ _ _ h => h) (by rfl) ?_ hHeld ?_
    rotate_left
    · intro w hSw; (try dsimp only at hSw); (first | (go_simp; done) | (go_simp; with_reducible rfl))
    simp only [Act.put, List.setIfInBounds_toArray, List.set_cons_zero, List.set_cons_succ]
    refine takeL (fuel := 5) (v := ?_) 13 rfl (by kernel_rfl) (by kernel_rfl) (by kernel_rfl) (fun _ _ _ h => h) (by rfl) ?_ hHeld ?_
    rotate_left
    · intro w hSw; (try dsimp only at hSw); (first | (go_simp; done) | (go_simp; with_reducible rfl))
    simp only [Act.put, List.setIfInBounds_toArray, List.set_cons_zero, List.set_cons_succ]
    refine takeL (fuel := 4) (v := ?_) 14 rfl (by kernel_rfl) (by kernel_rfl) (by kernel_rfl) (fun _ _ _ h => h) (by rfl) ?_ hHeld ?_
    rotate_left
    · intro w hSw; (try dsimp only at hSw); (first | (go_simp; done) | (go_simp; with_reducible rfl))
    simp only [Act.put, List.setIfInBounds_toArray, List.set_cons_zero, List.set_cons_succ]
    refine takeL (fuel := 3) (v := ?_) 15 rfl (by kernel_rfl) (by kernel_rfl) (by kernel_rfl) (fun _ _ _ h => h) (by rfl) ?_ hHeld ?_
    rotate_left
    · intro w hSw; (try dsimp only at hSw); (first | (go_simp; done) | (go_simp; with_reducible rfl))
    simp only [Act.put, List.setIfInBounds_toArray, List.set_cons_zero, List.set_cons_succ]
    refine callL (fuel := 2) 16 rfl (by kernel_rfl) (fun K hK => ?_)
    go_simp
    refine (inRing_c HR.out ((hx.step (Step.drew _)).step st3')).mono ?_
    rintro e w4 ⟨rfl, st4⟩
    have st4' : Step _ _ := st4
    try simp only []
    refine hK.out _ _ ?_ (fun hHeld => ?_)
    · (first | exact ⟨m0, m1, m2, m3⟩ | (refine ⟨?_, ?_, ?_, ?_⟩ <;> (focus (repeat (first | assumption | refine cell_step (by assumption) ?_ | refine cell_step (Step.drew _) ?_)))))
    clear hK K
    try simp only [Act.put, List.setIfInBounds_toArray, List.set_cons_zero, List.set_cons_succ]
    refine takeL (fuel := 1) (v := ?_) 17 rfl (by kernel_rfl) (by kernel_rfl) (by kernel_rfl) (fun _ _ _ h => h) (by rfl) ?_ hHeld ?_
    rotate_left
    · intro w hSw; (try dsimp only at hSw); (first | (go_simp; done) | (go_simp; with_reducible rfl))
    simp only [Act.put, List.setIfInBounds_toArray, List.set_cons_zero, List.set_cons_succ]
    refine takeL (fuel := 0) (v := ?_) 18 rfl (by kernel_rfl) (by kernel_rfl) (by kernel_rfl) (fun _ _ _ h => h) (by rfl) ?_ hHeld ?_
    rotate_left
    · intro w hSw; (try dsimp only at hSw); (first | (go_simp; done) | (go_simp; with_reducible rfl))
    simp only [Act.put, List.setIfInBounds_toArray, List.set_cons_zero, List.set_cons_succ]
    refine wpAnyH_done (by kernel_rfl) ?_ _
    go_wp2_with fail
    go_ret
    exact ⟨ret_bool HE.out.symm, (st02.trans (Step.of_drew st3')).trans st4'⟩
  · have hb : ((n2 : Int) == tsize t.labels t.dims * width ⟨k, p, n⟩) = false := by simpa using hw
    have HE := Lib.hid (tensorOk_no3 (r := ⟨k, p, n⟩) (by rw [hl2.out]; exact hw))
    clear hw
    have hwr : IntKind.i64.wrap (tsize t.labels t.dims * width ⟨k, p, n⟩) = tsize t.labels t.dims * width ⟨k, p, n⟩ := IntWalk.i64_in _ (by omega)
    generalize tsize t.labels t.dims = s at *
    go_wp2_with fail
    refine wp_region_held_drew (S := (fun W' => W'.cell? ⟨W.heap.size, 0, none⟩ = some (.int .i64 k) ∧ W'.cell? ⟨W.heap.size, 1, none⟩ = some (.int .i64 p) ∧ W'.cell? ⟨W.heap.size, 2, none⟩ = some (.int .i64 n) ∧ W'.cell? ⟨W.heap.size + 1, 2, none⟩ = some (.slice A2 n2 c2))) (by kernel_rfl) ?_ (fun hHeld => ?_)
    · exact ⟨m0, m1, m2, m3⟩
    refine takeL (fuel := 18) (v := ?_) 0 rfl (by kernel_rfl) (by kernel_rfl) (by kernel_rfl) (fun _ _ _ h => h) (by rfl) ?_ hHeld ?_
    rotate_left
    · intro w hSw; (try dsimp only at hSw); (first | (go_simp; done) | (go_simp; with_reducible rfl))
    simp only [Act.put, List.setIfInBounds_toArray, List.set_cons_zero, List.set_cons_succ]
    refine takeL (fuel := 17) (v := ?_) 1 rfl (by kernel_rfl) (by kernel_rfl) (by kernel_rfl) (fun _ _ _ h => h) (by rfl) ?_ hHeld ?_
    rotate_left
    · intro w hSw; (try dsimp only at hSw); (first | (go_simp; done) | (go_simp; with_reducible rfl))
    simp only [Act.put, List.setIfInBounds_toArray, List.set_cons_zero, List.set_cons_succ]
    refine takeL (fuel := 16) (v := ?_) 2 rfl (by kernel_rfl) (by kernel_rfl) (by kernel_rfl) (fun _ _ _ h => h) (by rfl) ?_ hHeld ?_
    rotate_left
    · intro w hSw; (try dsimp only at hSw); (first | (go_simp; done) | (go_simp; with_reducible rfl))
    simp only [Act.put, List.setIfInBounds_toArray, List.set_cons_zero, List.set_cons_succ]
    refine takeL (fuel := 15) (v := ?_) 3 rfl (by kernel_rfl) (by kernel_rfl) (by kernel_rfl) (fun _ _ _ h => h) (by rfl) ?_ hHeld ?_
    rotate_left
    · intro w hSw; (try dsimp only at hSw); (first | (go_simp; done) | (go_simp; with_reducible rfl))
    simp only [Act.put, List.setIfInBounds_toArray, List.set_cons_zero, List.set_cons_succ]
    refine takeL (fuel := 14) (v := ?_) 4 rfl (by kernel_rfl) (by kernel_rfl) (by kernel_rfl) (fun _ _ _ h => h) (by rfl) ?_ hHeld ?_
    rotate_left
    · intro w hSw; (try dsimp only at hSw); (first | (go_simp; done) | (go_simp; with_reducible rfl))
    simp only [Act.put, List.setIfInBounds_toArray, List.set_cons_zero, List.set_cons_succ]
    refine takeL (fuel := 13) (v := ?_) 5 rfl (by kernel_rfl) (by kernel_rfl) (by kernel_rfl) (fun _ _ _ h => h) (by rfl) ?_ hHeld ?_
    rotate_left
    · intro w hSw; (try dsimp only at hSw); (first | (go_simp; done) | (go_simp; with_reducible rfl))
    simp only [Act.put, List.setIfInBounds_toArray, List.set_cons_zero, List.set_cons_succ]
    refine takeL (fuel := 12) (v := ?_) 6 rfl (by kernel_rfl) (by kernel_rfl) (by kernel_rfl) (fun _ _ _ h => h) (by rfl) ?_ hHeld ?_
    rotate_left
    · intro w hSw; (try dsimp only at hSw); (first | (go_simp; done) | (go_simp; with_reducible rfl))
    simp only [Act.put, List.setIfInBounds_toArray, List.set_cons_zero, List.set_cons_succ]
    refine takeL (fuel := 11) (v := ?_) 7 rfl (by kernel_rfl) (by kernel_rfl) (by kernel_rfl) (fun _ _ _ h => h) (by rfl) ?_ hHeld ?_
    rotate_left
    · intro w hSw; (try dsimp only at hSw); (first | (go_simp; done) | (go_simp; with_reducible rfl))
    simp only [Act.put, List.setIfInBounds_toArray, List.set_cons_zero, List.set_cons_succ]
    refine callL (fuel := 10) 8 rfl (by kernel_rfl) (fun K hK => ?_)
    go_simp
    refine (rawWidth_c k p n _).mono ?_
    rintro e w3 ⟨rfl, st3⟩
    have st3' : Step _ _ := st3
    try simp only []
    refine hK.out _ _ ?_ (fun hHeld => ?_)
    · (first | exact ⟨m0, m1, m2, m3⟩ | (refine ⟨?_, ?_, ?_, ?_⟩ <;> (focus (repeat (first | assumption | refine cell_step (by assumption) ?_ | refine cell_step (Step.drew _) ?_)))))
    clear hK K
    try simp only [Act.put, List.setIfInBounds_toArray, List.set_cons_zero, List.set_cons_succ]
    refine takeL (fuel := 9) (v := ?_) 9 rfl (by kernel_rfl) (by kernel_rfl) (by kernel_rfl) (fun _ _ _ h => h) (by rfl) ?_ hHeld ?_
    rotate_left
    · intro w hSw; (try dsimp only at hSw); (first | (go_simp; done) | (go_simp; with_reducible rfl))
    simp only [Act.put, List.setIfInBounds_toArray, List.set_cons_zero, List.set_cons_succ]
    refine takeL (fuel := 8) (v := ?_) 10 rfl (by kernel_rfl) (by kernel_rfl) (by kernel_rfl) (fun _ _ _ h => h) (by rfl) ?_ hHeld ?_
    rotate_left
    · intro w hSw; (try dsimp only at hSw); (first | (go_simp; done) | (go_simp; with_reducible rfl))
    simp only [Act.put, List.setIfInBounds_toArray, List.set_cons_zero, List.set_cons_succ]
    refine takeL (fuel := 7) (v := ?_) 11 rfl (by kernel_rfl) (by kernel_rfl) (by kernel_rfl) (fun _ _ _ h => h) (by rfl) ?_ hHeld ?_
    rotate_left
    · intro w hSw; (try dsimp only at hSw); (first | (go_simp; done) | (go_simp; with_reducible rfl))
    simp only [Act.put, List.setIfInBounds_toArray, List.set_cons_zero, List.set_cons_succ]
    refine takeL (fuel := 6) (v := ?_) 12 rfl (by kernel_rfl) (by kernel_rfl) (by kernel_rfl) (fun _ _ _ h => h) (by rfl) ?_ hHeld ?_
    rotate_left
    · intro w hSw; (try dsimp only at hSw); (first | (go_simp; done) | (go_simp; with_reducible rfl))
    simp only [Act.put, List.setIfInBounds_toArray, List.set_cons_zero, List.set_cons_succ]
    refine passL (fuel := 2) (by kernel_rfl) (fun _ _ _ _ _ h => h) hHeld [13, 14, 15, 16] _ _ _ (by kernel_rfl) ?_
    simp only [deadListed, deadTmps, List.getElem?_cons_succ, List.getElem?_cons_zero, Option.bind_some, List.setIfInBounds_toArray, List.set_cons_zero, List.set_cons_succ]
    refine takeL (fuel := 1) (v := ?_) 17 rfl (by kernel_rfl) (by kernel_rfl) (by kernel_rfl) (fun _ _ _ h => h) (by rfl) ?_ hHeld ?_
    rotate_left
    · intro w hSw; (try dsimp only at hSw); (first | (go_simp; done) | (go_simp; with_reducible rfl))
    simp only [Act.put, List.setIfInBounds_toArray, List.set_cons_zero, List.set_cons_succ]
    refine takeL (fuel := 0) (v := ?_) 18 rfl (by kernel_rfl) (by kernel_rfl) (by kernel_rfl) (fun _ _ _ h => h) (by rfl) ?_ hHeld ?_
    rotate_left
    · intro w hSw; (try dsimp only at hSw); (first | (go_simp; done) | (go_simp; with_reducible rfl))
    simp only [Act.put, List.setIfInBounds_toArray, List.set_cons_zero, List.set_cons_succ]
    refine wpAnyH_done (by kernel_rfl) ?_ _
    go_wp2_with fail
    go_ret
    exact ⟨ret_bool HE.out.symm, st02.trans (Step.of_drew st3')⟩
end

end Go.Proofs.Ytmgifmgdfldheaa
