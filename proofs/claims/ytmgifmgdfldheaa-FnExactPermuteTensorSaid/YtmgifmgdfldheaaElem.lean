/-
  Contracts: elements and tensors that are right, in the program and in the reference. No condition.
-/
import Derived.Test.YtmgifmgdfldheaaRing2
import Derived.Test.YtmgifmgdfldheaaRing3
import Derived.Test.YtmgifmgdfldheaaRing4
namespace Go.Proofs.Ytmgifmgdfldheaa
open Go.RowKit Plain

section
variable {W : World} {k p n : Int} {A : Option Addr} {m c : Nat} {xs : List Int}

set_option maxHeartbeats 800000 in
theorem inRing_c (hr : ringOk ⟨k, p, n⟩ = true) (hx : SlOk W A m c xs) :
    Calls Try.prog 67 #[.agg #[.int .i64 k, .int .i64 p, .int .i64 n], .slice A m c] W (RetV W (.bool (fitsB ⟨k, p, n⟩ xs))) := by
  have st0 := Step.alloc W (.cells #[.int .i64 k, .int .i64 p, .int .i64 n] 45)
  have hlx := Lib.hid hx.at_.len
  have hmn := hx.len
  obtain ⟨tp, htp⟩ : ∃ tp, tp = top ⟨k, p, n⟩ := ⟨_, rfl⟩
  have HTP := Lib.hid htp
  obtain ⟨b1, b2⟩ := top_bd hr
  rw [← htp] at b1 b2
  clear htp
  go_enter Try.func67, Try.ntmps67
  go_wp2_with fail
  refine (rawTop_c k p n _ hr).mono ?_
  rintro e w1 ⟨rfl, st1⟩
  rw [← HTP.out]
  have hx1 := ((hx.step st0).step st1).at_
  clear hx hr
  go_wp2_with fail
  go_loop [12] (fun i => ∃ j : Nat, j ≤ m ∧ i = .int .i64 j ∧ ∀ q, q < j → 0 ≤ xs.getD q 0 ∧ xs.getD q 0 ≤ tp) (fun i => m - (intOf i).toNat)
  case atStart => exact ⟨0, Nat.zero_le _, rfl, fun q hq => absurd hq (by omega)⟩
  case round =>
    obtain ⟨j, hj, rfl, hq⟩ := hrel
    have HQ := Lib.hid hq
    clear hq
    by_cases hlt : j < m
    · obtain ⟨b, off, rfl, hb, hc⟩ := hx1.at_ (by omega)
      have hck := hc j hlt
      have hbad := Lib.hid (fun h => @fitsB_no ⟨k, p, n⟩ xs j (by rw [hlx.out]; exact hlt) h)
      rw [← HTP.out] at hbad
      have hok : ∀ z, z = xs.getD j 0 → (0 ≤ z ∧ z ≤ tp) → ∀ q, q < j + 1 → 0 ≤ xs.getD q 0 ∧ xs.getD q 0 ≤ tp := by
        intro z hz hzz q hq
        rcases Nat.lt_or_ge q j with h1 | h1
        · exact HQ.out q h1
        · obtain rfl : q = j := by omega
          rw [← hz]; exact hzz
      have HOK := Lib.hid hok
      clear hok
      generalize hz : xs.getD j 0 = z at hck hbad HOK
      have hji : (j : Int) < (m : Int) := by omega
      clear hc hz hx1
      by_cases hg : 0 ≤ z ∧ z ≤ tp
      · obtain ⟨g1, g2⟩ := hg
        go_wp2
        go_round
        case rel => exact ⟨j + 1, by omega, by go_num, HOK.out z rfl ⟨g1, g2⟩⟩
        case measure => simp [intOf]; omega
      · have hr := Lib.hid (hbad.out hg)
        by_cases g1 : z < 0
        · clear hg
          go_wp2
          go_ret
          exact ⟨ret_bool hr.out.symm, st0.trans st1⟩
        · have g2 : tp < z := by omega
          clear hg
          go_wp2
          go_ret
          exact ⟨ret_bool hr.out.symm, st0.trans st1⟩
    · go_wp2
      go_ret
      obtain rfl : j = m := by omega
      have hq := HQ.out
      rw [HTP.out] at hq
      exact ⟨ret_bool (fitsB_yes (by rw [hlx.out]; exact hq)).symm, st0.trans st1⟩

set_option maxHeartbeats 800000 in
theorem l02Elem_c (hr : ringOk ⟨k, p, n⟩ = true) (hx : SlOk W A m c xs) :
    Calls Try.prog 85 #[.agg #[.int .i64 k, .int .i64 p, .int .i64 n], .slice A m c] W (RetV W (.bool (decide ((xs.length : Int) = width ⟨k, p, n⟩) && fitsB ⟨k, p, n⟩ xs))) := by
  have st0 := Step.alloc W (.cells #[.int .i64 k, .int .i64 p, .int .i64 n] 45)
  have hlx := Lib.hid hx.at_.len
  have hmn := hx.len
  obtain ⟨tp, htp⟩ : ∃ tp, tp = top ⟨k, p, n⟩ := ⟨_, rfl⟩
  have HTP := Lib.hid htp
  obtain ⟨b1, b2⟩ := top_bd hr
  rw [← htp] at b1 b2
  clear htp
  go_enter Try.func85, Try.ntmps85
  go_wp2_with fail
  go_loopw [9] (fun i wr => ∃ j : Nat, j ≤ m ∧ i = .int .i64 j ∧ Step (W.alloc (.cells #[.int .i64 k, .int .i64 p, .int .i64 n] 45)) wr ∧ ∀ q, q < j → 0 ≤ xs.getD q 0 ∧ xs.getD q 0 ≤ tp) (fun i _ => m - (intOf i).toNat)
  case atStart => exact ⟨0, Nat.zero_le _, rfl, Below.refl _ _, fun q hq => absurd hq (by omega)⟩
  case round =>
    obtain ⟨j, hj, rfl, st1, hq⟩ := hrel
    have HQ := Lib.hid hq
    have hx1 := ((hx.step st0).step st1).at_
    obtain ⟨hc1, _⟩ := bcell (Below.mono st1 (B' := W.heap.size + 1) (by simp))
    clear hq hx
    by_cases hlt : j < m
    · obtain ⟨b, off, rfl, hb, hc⟩ := hx1.at_ (by omega)
      have hck := hc j hlt
      have hbad := Lib.hid (fun h => @fitsB_no ⟨k, p, n⟩ xs j (by rw [hlx.out]; exact hlt) h)
      rw [← HTP.out] at hbad
      have hok : ∀ z, z = xs.getD j 0 → (0 ≤ z ∧ z ≤ tp) → ∀ q, q < j + 1 → 0 ≤ xs.getD q 0 ∧ xs.getD q 0 ≤ tp := by
        intro z hz hzz q hq
        rcases Nat.lt_or_ge q j with h1 | h1
        · exact HQ.out q h1
        · obtain rfl : q = j := by omega
          rw [← hz]; exact hzz
      have HOK := Lib.hid hok
      clear hok
      generalize hz : xs.getD j 0 = z at hck hbad HOK
      have hji : (j : Int) < (m : Int) := by omega
      have HC := Lib.hid hc1
      clear hc hz hx1
      have m0 : wr.cell? ⟨W.heap.size, 0, none⟩ = some (.int .i64 k) := by rw [hc1 _ _ (by omega)]; simp
      have m1 : wr.cell? ⟨W.heap.size, 1, none⟩ = some (.int .i64 p) := by rw [hc1 _ _ (by omega)]; simp
      have m2 : wr.cell? ⟨W.heap.size, 2, none⟩ = some (.int .i64 n) := by rw [hc1 _ _ (by omega)]; simp
      clear hc1 HC
      go_wp2_with fail
      refine (l02Top_c k p n _ hr).mono ?_
      rintro e w2 ⟨rfl, st2⟩
      rw [← HTP.out]
      by_cases hg : 0 ≤ z ∧ z ≤ tp
      · obtain ⟨g1, g2⟩ := hg
        go_wp2_with (go_at_call 53; refine (l01In_yes _ _ _ _ (by omega) (by omega)).mono ?_; rintro e w' ⟨rfl, rfl⟩)
        go_roundw
        case rel => exact ⟨j + 1, by omega, by go_num, st1.trans st2, HOK.out z rfl ⟨g1, g2⟩⟩
        case measure => simp [intOf]; omega
      · have hr := Lib.hid (hbad.out hg)
        have HG := Lib.hid hg
        clear hg
        go_wp2_with (go_at_call 53; refine (l01In_no _ _ _ _ HG.out).mono ?_; rintro e w' ⟨rfl, rfl⟩)
        go_ret
        exact ⟨ret_bool (by rw [hr.out]; simp), (st0.trans st1).trans st2⟩
    · obtain rfl : j = m := by omega
      have hq := HQ.out
      rw [HTP.out] at hq
      have hf := Lib.hid (fitsB_yes (r := ⟨k, p, n⟩) (by rw [hlx.out]; exact hq))
      clear hq hx1
      have m0 : wr.cell? ⟨W.heap.size, 0, none⟩ = some (.int .i64 k) := by rw [hc1 _ _ (by omega)]; simp
      have m1 : wr.cell? ⟨W.heap.size, 1, none⟩ = some (.int .i64 p) := by rw [hc1 _ _ (by omega)]; simp
      have m2 : wr.cell? ⟨W.heap.size, 2, none⟩ = some (.int .i64 n) := by rw [hc1 _ _ (by omega)]; simp
      clear hc1
      go_wp2_with fail
      refine (l02Width_c k p n _).mono ?_
      rintro e w2 ⟨rfl, st2⟩
      go_wp2_with fail
      go_ret
      exact ⟨ret_bool (by rw [hf.out, hlx.out, Bool.and_true]; rfl), (st0.trans st1).trans st2⟩

theorem elemOk_no1 {r : Rg} {xs : List Int} (h : ringOk r = false) : elemOk r xs = false := by simp [elemOk, h]
theorem elemOk_no2 {r : Rg} {xs : List Int} (h : ¬ (xs.length : Int) = width r) : elemOk r xs = false := by simp [elemOk, h]
theorem elemOk_yes {r : Rg} {xs : List Int} (h : ringOk r = true) (h2 : (xs.length : Int) = width r) : elemOk r xs = fitsB r xs := by simp [elemOk, h, h2]

set_option maxHeartbeats 800000 in
theorem iElemOk_c (hx : SlOk W A m c xs) :
    Calls Try.prog 77 #[.agg #[.int .i64 k, .int .i64 p, .int .i64 n], .slice A m c] W (RetV W (.bool (elemOk ⟨k, p, n⟩ xs))) := by
  have st0 := Step.alloc W (.cells #[.int .i64 k, .int .i64 p, .int .i64 n] 45)
  have hlx := Lib.hid hx.at_.len
  go_enter Try.func77, Try.ntmps77
  go_wp2_with fail
  refine (iRingOk_c k p n _).mono ?_
  rintro e w1 ⟨rfl, st1⟩
  obtain ⟨hc1, _⟩ := bcell (Below.mono st1 (B' := W.heap.size + 1) (by simp))
  rcases Bool.eq_false_or_eq_true (ringOk ⟨k, p, n⟩) with hr | hr
  · have HR := Lib.hid hr
    rw [hr]
    clear hr
    go_wp2_with fail
    refine (rawWidth_c k p n _).mono ?_
    rintro e w2 ⟨rfl, st2⟩
    obtain ⟨hc2, _⟩ := bcell (Below.mono st2 (B' := W.heap.size + 1) (by have := Below.size st1; simp at this; omega))
    by_cases hw : (m : Int) = width ⟨k, p, n⟩
    · have hb : ((m : Int) == width ⟨k, p, n⟩) = true := by simpa using hw
      have HE := Lib.hid (elemOk_yes HR.out (by rw [hlx.out]; exact hw))
      clear hw
      go_wp2_with fail
      refine (inRing_c HR.out (((hx.step st0).step st1).step st2)).mono ?_
      rintro e w3 ⟨rfl, st3⟩
      go_wp2_with fail
      go_ret
      exact ⟨ret_bool HE.out.symm, ((st0.trans st1).trans st2).trans st3⟩
    · have hb : ((m : Int) == width ⟨k, p, n⟩) = false := by simpa using hw
      have HE := Lib.hid (elemOk_no2 (r := ⟨k, p, n⟩) (xs := xs) (by rw [hlx.out]; exact hw))
      clear hw
      go_wp2_with fail
      go_ret
      exact ⟨ret_bool HE.out.symm, (st0.trans st1).trans st2⟩
  · have HE := Lib.hid (elemOk_no1 (xs := xs) hr)
    rw [hr]
    clear hr
    go_wp2_with fail
    go_ret
    exact ⟨ret_bool HE.out.symm, st0.trans st1⟩

set_option maxHeartbeats 800000 in
theorem sElemOk_c (hx : SlOk W A m c xs) :
    Calls Try.prog 75 #[.agg #[.int .i64 k, .int .i64 p, .int .i64 n], .slice A m c] W (RetV W (.bool (elemOk ⟨k, p, n⟩ xs))) := by
  have st0 := Step.alloc W (.cells #[.int .i64 k, .int .i64 p, .int .i64 n] 45)
  go_enter Try.func75, Try.ntmps75
  go_wp2_with fail
  refine (sRingOk_c k p n _).mono ?_
  rintro e w1 ⟨rfl, st1⟩
  obtain ⟨hc1, _⟩ := bcell (Below.mono st1 (B' := W.heap.size + 1) (by simp))
  rcases Bool.eq_false_or_eq_true (ringOk ⟨k, p, n⟩) with hr | hr
  · have HE := Lib.hid (show elemOk ⟨k, p, n⟩ xs = (decide ((xs.length : Int) = width ⟨k, p, n⟩) && fitsB ⟨k, p, n⟩ xs) by simp [elemOk, hr])
    have HR := Lib.hid hr
    rw [hr]
    clear hr
    go_wp2_with fail
    refine (l02Elem_c HR.out ((hx.step st0).step st1)).mono ?_
    rintro e w2 ⟨rfl, st2⟩
    generalize (decide ((xs.length : Int) = width ⟨k, p, n⟩) && fitsB ⟨k, p, n⟩ xs) = bb at *
    go_wp2_with fail
    go_ret
    exact ⟨ret_bool HE.out.symm, (st0.trans st1).trans st2⟩
  · have HE := Lib.hid (elemOk_no1 (xs := xs) hr)
    rw [hr]
    clear hr
    go_wp2_with fail
    go_ret
    exact ⟨ret_bool HE.out.symm, st0.trans st1⟩
end

end Go.Proofs.Ytmgifmgdfldheaa
