/-
  Contracts: what rings are right, in the program. No condition.
-/
import Derived.Test.YtmgifmgdfldheaaRing
namespace Go.Proofs.Ytmgifmgdfldheaa
open Go.RowKit Plain

set_option maxHeartbeats 4000000 in
theorem iRingOk_c (k p n : Int) (W : World) : Calls Try.prog 65 #[.agg #[.int .i64 k, .int .i64 p, .int .i64 n]] W (RetV W (.bool (ringOk ⟨k, p, n⟩))) := by
  have st0 := Step.alloc W (.cells #[.int .i64 k, .int .i64 p, .int .i64 n] 45)
  by_cases h1 : k = 1
  · subst h1
    by_cases g0 : p = 0
    · by_cases g1 : n = 0
      · have HR := Lib.hid (show ringOk ⟨1, p, n⟩ = true by simp [ringOk, g0, g1])
        subst g0
        subst g1
        go_enter Try.func65, Try.ntmps65
        go_wp2_with (first | (go_at_call 95; refine (iIsPrime_c _ _).mono ?_; rintro e w' ⟨rfl, rfl⟩))
        go_ret
        first | exact ⟨ret_bool HR.out.symm, st0⟩ | exact ⟨ret_bool (by rw [HR.out]; simp; omega), st0⟩
      · have HR := Lib.hid (show ringOk ⟨1, p, n⟩ = false by simp [ringOk, g0, g1])
        subst g0
        have bg1 : (n == 0) = false := by simpa using g1
        have cg1 : (n != 0) = true := by simpa using g1
        go_enter Try.func65, Try.ntmps65
        go_wp2_with (first | (go_at_call 95; refine (iIsPrime_c _ _).mono ?_; rintro e w' ⟨rfl, rfl⟩))
        go_ret
        first | exact ⟨ret_bool HR.out.symm, st0⟩ | exact ⟨ret_bool (by rw [HR.out]; simp; omega), st0⟩
    · have HR := Lib.hid (show ringOk ⟨1, p, n⟩ = false by simp [ringOk, g0])
      have bg0 : (p == 0) = false := by simpa using g0
      have cg0 : (p != 0) = true := by simpa using g0
      go_enter Try.func65, Try.ntmps65
      go_wp2_with (first | (go_at_call 95; refine (iIsPrime_c _ _).mono ?_; rintro e w' ⟨rfl, rfl⟩))
      go_ret
      first | exact ⟨ret_bool HR.out.symm, st0⟩ | exact ⟨ret_bool (by rw [HR.out]; simp; omega), st0⟩
  have t1 : (k == 1) = false := by simpa using h1
  by_cases h2 : k = 2
  · subst h2
    have hpb := @isPrime_bd p
    by_cases g0 : isPrime p = true
    · by_cases g1 : n = 0
      · have HR := Lib.hid (show ringOk ⟨2, p, n⟩ = true by simp [ringOk, g0, g1])
        subst g1
        clear hpb
        go_enter Try.func65, Try.ntmps65
        go_wp2_with (first | (go_at_call 95; refine (iIsPrime_c _ _).mono ?_; rintro e w' ⟨rfl, rfl⟩))
        go_ret
        first | exact ⟨ret_bool HR.out.symm, st0⟩ | exact ⟨ret_bool (by rw [HR.out]; simp; omega), st0⟩
      · have HR := Lib.hid (show ringOk ⟨2, p, n⟩ = false by simp [ringOk, g0, g1])
        have bg1 : (n == 0) = false := by simpa using g1
        have cg1 : (n != 0) = true := by simpa using g1
        clear hpb
        go_enter Try.func65, Try.ntmps65
        go_wp2_with (first | (go_at_call 95; refine (iIsPrime_c _ _).mono ?_; rintro e w' ⟨rfl, rfl⟩))
        go_ret
        first | exact ⟨ret_bool HR.out.symm, st0⟩ | exact ⟨ret_bool (by rw [HR.out]; simp; omega), st0⟩
    · have HR := Lib.hid (show ringOk ⟨2, p, n⟩ = false by simp [ringOk, g0])
      replace g0 : isPrime p = false := by simpa using g0
      clear hpb
      go_enter Try.func65, Try.ntmps65
      go_wp2_with (first | (go_at_call 95; refine (iIsPrime_c _ _).mono ?_; rintro e w' ⟨rfl, rfl⟩))
      go_ret
      first | exact ⟨ret_bool HR.out.symm, st0⟩ | exact ⟨ret_bool (by rw [HR.out]; simp; omega), st0⟩
  have t2 : (k == 2) = false := by simpa using h2
  by_cases h3 : k = 3
  · subst h3
    by_cases g0 : 1 ≤ p
    · by_cases g1 : p ≤ 1000000
      · by_cases g2 : n = 0
        · have HR := Lib.hid (show ringOk ⟨3, p, n⟩ = true by simp [ringOk, g0, g1, g2])
          subst g2
          go_enter Try.func65, Try.ntmps65
          go_wp2_with (first | (go_at_call 95; refine (iIsPrime_c _ _).mono ?_; rintro e w' ⟨rfl, rfl⟩))
          go_ret
          first | exact ⟨ret_bool HR.out.symm, st0⟩ | exact ⟨ret_bool (by rw [HR.out]; simp; omega), st0⟩
        · have HR := Lib.hid (show ringOk ⟨3, p, n⟩ = false by simp [ringOk, g0, g1, g2])
          have bg2 : (n == 0) = false := by simpa using g2
          have cg2 : (n != 0) = true := by simpa using g2
          go_enter Try.func65, Try.ntmps65
          go_wp2_with (first | (go_at_call 95; refine (iIsPrime_c _ _).mono ?_; rintro e w' ⟨rfl, rfl⟩))
          go_ret
          first | exact ⟨ret_bool HR.out.symm, st0⟩ | exact ⟨ret_bool (by rw [HR.out]; simp; omega), st0⟩
      · have HR := Lib.hid (show ringOk ⟨3, p, n⟩ = false by simp [ringOk, g0, g1])
        go_enter Try.func65, Try.ntmps65
        go_wp2_with (first | (go_at_call 95; refine (iIsPrime_c _ _).mono ?_; rintro e w' ⟨rfl, rfl⟩))
        go_ret
        first | exact ⟨ret_bool HR.out.symm, st0⟩ | exact ⟨ret_bool (by rw [HR.out]; simp; omega), st0⟩
    · have HR := Lib.hid (show ringOk ⟨3, p, n⟩ = false by simp [ringOk, g0])
      go_enter Try.func65, Try.ntmps65
      go_wp2_with (first | (go_at_call 95; refine (iIsPrime_c _ _).mono ?_; rintro e w' ⟨rfl, rfl⟩))
      go_ret
      first | exact ⟨ret_bool HR.out.symm, st0⟩ | exact ⟨ret_bool (by rw [HR.out]; simp; omega), st0⟩
  have t3 : (k == 3) = false := by simpa using h3
  by_cases h4 : k = 4
  · subst h4
    by_cases g0 : 1 ≤ p
    · by_cases g1 : p ≤ 1000000
      · by_cases g2 : n = 0
        · have HR := Lib.hid (show ringOk ⟨4, p, n⟩ = true by simp [ringOk, g0, g1, g2])
          subst g2
          go_enter Try.func65, Try.ntmps65
          go_wp2_with (first | (go_at_call 95; refine (iIsPrime_c _ _).mono ?_; rintro e w' ⟨rfl, rfl⟩))
          go_ret
          first | exact ⟨ret_bool HR.out.symm, st0⟩ | exact ⟨ret_bool (by rw [HR.out]; simp; omega), st0⟩
        · have HR := Lib.hid (show ringOk ⟨4, p, n⟩ = false by simp [ringOk, g0, g1, g2])
          have bg2 : (n == 0) = false := by simpa using g2
          have cg2 : (n != 0) = true := by simpa using g2
          go_enter Try.func65, Try.ntmps65
          go_wp2_with (first | (go_at_call 95; refine (iIsPrime_c _ _).mono ?_; rintro e w' ⟨rfl, rfl⟩))
          go_ret
          first | exact ⟨ret_bool HR.out.symm, st0⟩ | exact ⟨ret_bool (by rw [HR.out]; simp; omega), st0⟩
      · have HR := Lib.hid (show ringOk ⟨4, p, n⟩ = false by simp [ringOk, g0, g1])
        go_enter Try.func65, Try.ntmps65
        go_wp2_with (first | (go_at_call 95; refine (iIsPrime_c _ _).mono ?_; rintro e w' ⟨rfl, rfl⟩))
        go_ret
        first | exact ⟨ret_bool HR.out.symm, st0⟩ | exact ⟨ret_bool (by rw [HR.out]; simp; omega), st0⟩
    · have HR := Lib.hid (show ringOk ⟨4, p, n⟩ = false by simp [ringOk, g0])
      go_enter Try.func65, Try.ntmps65
      go_wp2_with (first | (go_at_call 95; refine (iIsPrime_c _ _).mono ?_; rintro e w' ⟨rfl, rfl⟩))
      go_ret
      first | exact ⟨ret_bool HR.out.symm, st0⟩ | exact ⟨ret_bool (by rw [HR.out]; simp; omega), st0⟩
  have t4 : (k == 4) = false := by simpa using h4
  by_cases h5 : k = 5
  · subst h5
    by_cases g0 : 1 ≤ p
    · by_cases g1 : p ≤ 1000000
      · by_cases g2 : n = 0
        · have HR := Lib.hid (show ringOk ⟨5, p, n⟩ = true by simp [ringOk, g0, g1, g2])
          subst g2
          go_enter Try.func65, Try.ntmps65
          go_wp2_with (first | (go_at_call 95; refine (iIsPrime_c _ _).mono ?_; rintro e w' ⟨rfl, rfl⟩))
          go_ret
          first | exact ⟨ret_bool HR.out.symm, st0⟩ | exact ⟨ret_bool (by rw [HR.out]; simp; omega), st0⟩
        · have HR := Lib.hid (show ringOk ⟨5, p, n⟩ = false by simp [ringOk, g0, g1, g2])
          have bg2 : (n == 0) = false := by simpa using g2
          have cg2 : (n != 0) = true := by simpa using g2
          go_enter Try.func65, Try.ntmps65
          go_wp2_with (first | (go_at_call 95; refine (iIsPrime_c _ _).mono ?_; rintro e w' ⟨rfl, rfl⟩))
          go_ret
          first | exact ⟨ret_bool HR.out.symm, st0⟩ | exact ⟨ret_bool (by rw [HR.out]; simp; omega), st0⟩
      · have HR := Lib.hid (show ringOk ⟨5, p, n⟩ = false by simp [ringOk, g0, g1])
        go_enter Try.func65, Try.ntmps65
        go_wp2_with (first | (go_at_call 95; refine (iIsPrime_c _ _).mono ?_; rintro e w' ⟨rfl, rfl⟩))
        go_ret
        first | exact ⟨ret_bool HR.out.symm, st0⟩ | exact ⟨ret_bool (by rw [HR.out]; simp; omega), st0⟩
    · have HR := Lib.hid (show ringOk ⟨5, p, n⟩ = false by simp [ringOk, g0])
      go_enter Try.func65, Try.ntmps65
      go_wp2_with (first | (go_at_call 95; refine (iIsPrime_c _ _).mono ?_; rintro e w' ⟨rfl, rfl⟩))
      go_ret
      first | exact ⟨ret_bool HR.out.symm, st0⟩ | exact ⟨ret_bool (by rw [HR.out]; simp; omega), st0⟩
  have t5 : (k == 5) = false := by simpa using h5
  by_cases h6 : k = 6
  · subst h6
    by_cases g0 : p = 0
    · by_cases g1 : 1 ≤ n
      · by_cases g2 : n ≤ 20
        · have HR := Lib.hid (show ringOk ⟨6, p, n⟩ = true by simp [ringOk, g0, g1, g2])
          subst g0
          go_enter Try.func65, Try.ntmps65
          go_wp2_with (first | (go_at_call 95; refine (iIsPrime_c _ _).mono ?_; rintro e w' ⟨rfl, rfl⟩))
          go_ret
          first | exact ⟨ret_bool HR.out.symm, st0⟩ | exact ⟨ret_bool (by rw [HR.out]; simp; omega), st0⟩
        · have HR := Lib.hid (show ringOk ⟨6, p, n⟩ = false by simp [ringOk, g0, g1, g2])
          subst g0
          go_enter Try.func65, Try.ntmps65
          go_wp2_with (first | (go_at_call 95; refine (iIsPrime_c _ _).mono ?_; rintro e w' ⟨rfl, rfl⟩))
          go_ret
          first | exact ⟨ret_bool HR.out.symm, st0⟩ | exact ⟨ret_bool (by rw [HR.out]; simp; omega), st0⟩
      · have HR := Lib.hid (show ringOk ⟨6, p, n⟩ = false by simp [ringOk, g0, g1])
        subst g0
        go_enter Try.func65, Try.ntmps65
        go_wp2_with (first | (go_at_call 95; refine (iIsPrime_c _ _).mono ?_; rintro e w' ⟨rfl, rfl⟩))
        go_ret
        first | exact ⟨ret_bool HR.out.symm, st0⟩ | exact ⟨ret_bool (by rw [HR.out]; simp; omega), st0⟩
    · have HR := Lib.hid (show ringOk ⟨6, p, n⟩ = false by simp [ringOk, g0])
      have bg0 : (p == 0) = false := by simpa using g0
      have cg0 : (p != 0) = true := by simpa using g0
      go_enter Try.func65, Try.ntmps65
      go_wp2_with (first | (go_at_call 95; refine (iIsPrime_c _ _).mono ?_; rintro e w' ⟨rfl, rfl⟩))
      go_ret
      first | exact ⟨ret_bool HR.out.symm, st0⟩ | exact ⟨ret_bool (by rw [HR.out]; simp; omega), st0⟩
  have t6 : (k == 6) = false := by simpa using h6
  by_cases h7 : k = 7
  · subst h7
    have hpb := @isPrime_bd p
    by_cases g0 : isPrime p = true
    · by_cases g1 : 1 ≤ n
      · by_cases g2 : n ≤ 6
        · have HR := Lib.hid (show ringOk ⟨7, p, n⟩ = true by simp [ringOk, g0, g1, g2])
          clear hpb
          go_enter Try.func65, Try.ntmps65
          go_wp2_with (first | (go_at_call 95; refine (iIsPrime_c _ _).mono ?_; rintro e w' ⟨rfl, rfl⟩))
          go_ret
          first | exact ⟨ret_bool HR.out.symm, st0⟩ | exact ⟨ret_bool (by rw [HR.out]; simp; omega), st0⟩
        · have HR := Lib.hid (show ringOk ⟨7, p, n⟩ = false by simp [ringOk, g0, g1, g2])
          clear hpb
          go_enter Try.func65, Try.ntmps65
          go_wp2_with (first | (go_at_call 95; refine (iIsPrime_c _ _).mono ?_; rintro e w' ⟨rfl, rfl⟩))
          go_ret
          first | exact ⟨ret_bool HR.out.symm, st0⟩ | exact ⟨ret_bool (by rw [HR.out]; simp; omega), st0⟩
      · have HR := Lib.hid (show ringOk ⟨7, p, n⟩ = false by simp [ringOk, g0, g1])
        clear hpb
        go_enter Try.func65, Try.ntmps65
        go_wp2_with (first | (go_at_call 95; refine (iIsPrime_c _ _).mono ?_; rintro e w' ⟨rfl, rfl⟩))
        go_ret
        first | exact ⟨ret_bool HR.out.symm, st0⟩ | exact ⟨ret_bool (by rw [HR.out]; simp; omega), st0⟩
    · have HR := Lib.hid (show ringOk ⟨7, p, n⟩ = false by simp [ringOk, g0])
      replace g0 : isPrime p = false := by simpa using g0
      clear hpb
      go_enter Try.func65, Try.ntmps65
      go_wp2_with (first | (go_at_call 95; refine (iIsPrime_c _ _).mono ?_; rintro e w' ⟨rfl, rfl⟩))
      go_ret
      first | exact ⟨ret_bool HR.out.symm, st0⟩ | exact ⟨ret_bool (by rw [HR.out]; simp; omega), st0⟩
  have t7 : (k == 7) = false := by simpa using h7
  by_cases h8 : k = 8
  · subst h8
    have hpb := @isPrime_bd p
    by_cases g0 : isPrime p = true
    · by_cases g1 : p = 2
      · have HR := Lib.hid (show ringOk ⟨8, p, n⟩ = false by simp [ringOk, g1])
        have z3 : p ≤ 2 := by omega
        have z4 : 2 ≤ p := by omega
        have cg1 : (p != 2) = false := by simpa using g1
        clear g1
        clear hpb
        go_enter Try.func65, Try.ntmps65
        go_wp2_with (first | (go_at_call 95; refine (iIsPrime_c _ _).mono ?_; rintro e w' ⟨rfl, rfl⟩))
        go_ret
        first | exact ⟨ret_bool HR.out.symm, st0⟩ | exact ⟨ret_bool (by rw [HR.out]; simp; omega), st0⟩
      · by_cases g2 : n = 0
        · have HR := Lib.hid (show ringOk ⟨8, p, n⟩ = true by simp [ringOk, g0, g1, g2])
          have bg1 : (p == 2) = false := by simpa using g1
          have cg1 : (p != 2) = true := by simpa using g1
          subst g2
          clear hpb
          go_enter Try.func65, Try.ntmps65
          go_wp2_with (first | (go_at_call 95; refine (iIsPrime_c _ _).mono ?_; rintro e w' ⟨rfl, rfl⟩))
          go_ret
          first | exact ⟨ret_bool HR.out.symm, st0⟩ | exact ⟨ret_bool (by rw [HR.out]; simp; omega), st0⟩
        · have HR := Lib.hid (show ringOk ⟨8, p, n⟩ = false by simp [ringOk, g0, g1, g2])
          have bg1 : (p == 2) = false := by simpa using g1
          have cg1 : (p != 2) = true := by simpa using g1
          have bg2 : (n == 0) = false := by simpa using g2
          have cg2 : (n != 0) = true := by simpa using g2
          clear hpb
          go_enter Try.func65, Try.ntmps65
          go_wp2_with (first | (go_at_call 95; refine (iIsPrime_c _ _).mono ?_; rintro e w' ⟨rfl, rfl⟩))
          go_ret
          first | exact ⟨ret_bool HR.out.symm, st0⟩ | exact ⟨ret_bool (by rw [HR.out]; simp; omega), st0⟩
    · have HR := Lib.hid (show ringOk ⟨8, p, n⟩ = false by simp [ringOk, g0])
      replace g0 : isPrime p = false := by simpa using g0
      clear hpb
      go_enter Try.func65, Try.ntmps65
      go_wp2_with (first | (go_at_call 95; refine (iIsPrime_c _ _).mono ?_; rintro e w' ⟨rfl, rfl⟩))
      go_ret
      first | exact ⟨ret_bool HR.out.symm, st0⟩ | exact ⟨ret_bool (by rw [HR.out]; simp; omega), st0⟩
  have t8 : (k == 8) = false := by simpa using h8
  have HR := Lib.hid (show ringOk ⟨k, p, n⟩ = false by simp [ringOk, h1, h2, h3, h4, h5, h6, h7, h8])
  clear h1 h2 h3 h4 h5 h6 h7 h8
  go_enter Try.func65, Try.ntmps65
  go_wp2_with fail
  go_ret
  exact ⟨ret_bool HR.out.symm, st0⟩

end Go.Proofs.Ytmgifmgdfldheaa
