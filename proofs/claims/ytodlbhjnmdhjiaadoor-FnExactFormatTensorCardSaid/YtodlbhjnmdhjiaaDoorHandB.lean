/-
  Contracts: primes and rings, in the program and in the reference. No condition.
-/
import Derived.Test.YtodlbhjnmdhjiaaDoorHandA
import Derived.Test.YtodlbhjnmdhjiaaDoorPlainA
namespace Go.Proofs.YtodlbhjnmdhjiaaDoor
open Go.RowKit Plain

set_option maxHeartbeats 400000 in
theorem iIsPrime_c (n : Int) (W : World) : Calls Tryd.prog 40 #[.int .i64 n] W fun e w' => e = .returned (.bool (isPrime n)) ∧ W = w' := by
  by_cases h1 : n < 2
  · have hr := Lib.hid (isPrime_lo h1)
    go_enter Tryd.func40, Tryd.ntmps40
    go_wp2
    go_ret
    exact ⟨ret_bool hr.out.symm, rfl⟩
  by_cases h2 : 1000003 < n
  · have hr := Lib.hid (isPrime_hi h2)
    go_enter Tryd.func40, Tryd.ntmps40
    go_wp2
    go_ret
    exact ⟨ret_bool hr.out.symm, rfl⟩
  go_enter Tryd.func40, Tryd.ntmps40
  go_wp2
  go_loop [3] (fun i => ∃ k : Nat, 2 ≤ k ∧ k ≤ 1001 ∧ i = .int .i64 k ∧ ∀ d : Nat, 2 ≤ d → d < k → n % d ≠ 0) (fun i => 1001 - (intOf i).toNat)
  case atStart => exact ⟨2, by omega, by omega, rfl, fun d a b => absurd b (by omega)⟩
  case round =>
    obtain ⟨k, hk1, hk2, rfl, hdv⟩ := hrel
    have HD := Lib.hid hdv
    obtain ⟨q1, q2⟩ := sq_bd hk2
    clear hdv
    by_cases hlt : (k : Int) * k ≤ n
    · have hk3 := sq_le hlt (by omega)
      have hdef := Lib.hid (fun h => @isPrime_div n k hk1 hlt (by omega) h)
      by_cases hm : n % (k : Int) = 0
      · have hr := Lib.hid (hdef.out hm)
        have ht : (n % (k : Int) == 0) = true := beq_iff_eq.2 hm
        clear hm
        go_wp2
        go_ret
        exact ⟨ret_bool hr.out.symm, rfl⟩
      · have ht : (n % (k : Int) == 0) = false := beq_eq_false_iff_ne.2 hm
        have HM := Lib.hid hm
        clear hm
        go_wp2
        go_round
        case rel =>
          refine ⟨k + 1, by omega, by omega, by go_num, fun d a b => ?_⟩
          rcases Nat.lt_or_ge d k with h | h
          · exact HD.out d a h
          · obtain rfl : d = k := by omega
            exact HM.out
        case measure => simp [intOf]; omega
    · have hr := Lib.hid (isPrime_yes (by omega) (by omega) HD.out (by omega))
      go_wp2
      go_ret
      exact ⟨ret_bool hr.out.symm, rfl⟩

set_option maxHeartbeats 400000 in
theorem sIsPrime_c (n : Int) (W : World) : Calls Tryd.prog 38 #[.int .i64 n] W fun e w' => e = .returned (.bool (isPrime n)) ∧ W = w' := by
  go_enter Tryd.func38, Tryd.ntmps38
  go_wp2
  go_loop [3] (fun i => ∃ k : Nat, 2 ≤ k ∧ k ≤ 1001 ∧ i = .int .i64 k ∧ ∀ d : Nat, 2 ≤ d → d < k → n % d ≠ 0) (fun i => 1001 - (intOf i).toNat)
  case atStart => exact ⟨2, by omega, by omega, rfl, fun d a b => absurd b (by omega)⟩
  case round =>
    obtain ⟨k, hk1, hk2, rfl, hdv⟩ := hrel
    have HD := Lib.hid hdv
    obtain ⟨q1, q2⟩ := sq_bd hk2
    clear hdv
    by_cases hlt : (k : Int) * k ≤ n
    · by_cases hn : n ≤ 1000003
      · have hk3 := sq_le hlt (by omega)
        have hdef := Lib.hid (fun h => @isPrime_div n k hk1 hlt (by omega) h)
        by_cases hm : n % (k : Int) = 0
        · have hr := Lib.hid (hdef.out hm)
          have ht : (n % (k : Int) == 0) = true := beq_iff_eq.2 hm
          clear hm
          go_wp2
          go_ret
          exact ⟨ret_bool hr.out.symm, rfl⟩
        · have ht : (n % (k : Int) == 0) = false := beq_eq_false_iff_ne.2 hm
          have HM := Lib.hid hm
          clear hm
          go_wp2
          go_round
          case rel =>
            refine ⟨k + 1, by omega, by omega, by go_num, fun d a b => ?_⟩
            rcases Nat.lt_or_ge d k with h | h
            · exact HD.out d a h
            · obtain rfl : d = k := by omega
              exact HM.out
          case measure => simp [intOf]; omega
      · have hr := Lib.hid (@isPrime_hi n (by omega))
        go_wp2_with (go_at_call 28; refine (l01In_no _ _ _ _ (by omega)).mono ?_; rintro e w' ⟨rfl, rfl⟩)
        go_ret
        exact ⟨ret_bool hr.out.symm, rfl⟩
    · by_cases h2 : 2 ≤ n
      · by_cases hn : n ≤ 1000003
        · have hr := Lib.hid (isPrime_yes h2 hn HD.out (by omega))
          go_wp2_with (go_at_call 28; refine (l01In_yes _ _ _ _ (by omega) (by omega)).mono ?_; rintro e w' ⟨rfl, rfl⟩)
          go_ret
          exact ⟨ret_bool hr.out.symm, rfl⟩
        · have hr := Lib.hid (@isPrime_hi n (by omega))
          go_wp2_with (go_at_call 28; refine (l01In_no _ _ _ _ (by omega)).mono ?_; rintro e w' ⟨rfl, rfl⟩)
          go_ret
          exact ⟨ret_bool hr.out.symm, rfl⟩
      · have hr := Lib.hid (@isPrime_lo n (by omega))
        go_wp2_with (go_at_call 28; refine (l01In_no _ _ _ _ (by omega)).mono ?_; rintro e w' ⟨rfl, rfl⟩)
        go_ret
        exact ⟨ret_bool hr.out.symm, rfl⟩

/-- The value of a ring. -/
abbrev rv (r : Rg) : Value := .agg #[.int .i64 r.k, .int .i64 r.p, .int .i64 r.n]

set_option maxHeartbeats 800000 in
theorem rawWidth_c (k p n : Int) (W : World) : Calls Tryd.prog 33 #[.agg #[.int .i64 k, .int .i64 p, .int .i64 n]] W (RetV W (.int .i64 (width ⟨k, p, n⟩))) := by
  have st0 := Step.alloc W (.cells #[.int .i64 k, .int .i64 p, .int .i64 n] 29)
  by_cases h7 : k = 7
  · subst h7
    go_enter Tryd.func33, Tryd.ntmps33
    go_wp2
    go_ret
    exact ⟨rfl, st0⟩
  by_cases h8 : k = 8
  · subst h8
    go_enter Tryd.func33, Tryd.ntmps33
    go_wp2
    go_ret
    exact ⟨rfl, st0⟩
  have e : width ⟨k, p, n⟩ = 1 := by unfold width; rw [if_neg h7, if_neg h8]
  rw [e]
  have t7 : (k == 7) = false := by simpa using h7
  have t8 : (k == 8) = false := by simpa using h8
  clear e h7 h8
  go_enter Tryd.func33, Tryd.ntmps33
  go_wp2
  go_ret
  exact ⟨rfl, st0⟩

end Go.Proofs.YtodlbhjnmdhjiaaDoor

/-
  Contracts: what rings are right, their widths and tops, in the program and in the reference. No condition.
-/
namespace Go.Proofs.YtodlbhjnmdhjiaaDoor
open Go.RowKit Plain

set_option maxHeartbeats 800000 in
theorem l02Width_c (k p n : Int) (W : World) : Calls Tryd.prog 27 #[.agg #[.int .i64 k, .int .i64 p, .int .i64 n]] W (RetV W (.int .i64 (width ⟨k, p, n⟩))) := by
  have st0 := Step.alloc W (.cells #[.int .i64 k, .int .i64 p, .int .i64 n] 29)
  by_cases h7 : k = 7
  · subst h7
    go_enter Tryd.func27, Tryd.ntmps27
    go_wp2
    go_ret
    exact ⟨rfl, st0⟩
  by_cases h8 : k = 8
  · subst h8
    go_enter Tryd.func27, Tryd.ntmps27
    go_wp2
    go_ret
    exact ⟨rfl, st0⟩
  have e : width ⟨k, p, n⟩ = 1 := by unfold width; rw [if_neg h7, if_neg h8]
  rw [e]
  have t7 : (k == 7) = false := by simpa using h7
  have t8 : (k == 8) = false := by simpa using h8
  clear e h7 h8
  go_enter Tryd.func27, Tryd.ntmps27
  go_wp2
  go_ret
  exact ⟨rfl, st0⟩

set_option maxHeartbeats 1600000 in
theorem rawTop_c (k p n : Int) (W : World) (h : ringOk ⟨k, p, n⟩ = true) : Calls Tryd.prog 42 #[.agg #[.int .i64 k, .int .i64 p, .int .i64 n]] W (RetV W (.int .i64 (top ⟨k, p, n⟩))) := by
  have st0 := Step.alloc W (.cells #[.int .i64 k, .int .i64 p, .int .i64 n] 29)
  rcases ringOk_cases h with ⟨rfl, h1, h2⟩ | ⟨rfl, h1, h2⟩ | ⟨rfl, h1, h2, h3⟩ | ⟨rfl, h1, h2, h3⟩ | ⟨rfl, h1, h2, h3⟩ | ⟨rfl, h1, h2, h3⟩ | ⟨rfl, h1, h2, h3⟩ | ⟨rfl, h1, h2, h3⟩
  · have e : top ⟨1, p, n⟩ = 1 := by simp [top]
    rw [e]
    clear e h h1 h2
    go_enter Tryd.func42, Tryd.ntmps42
    go_wp2
    go_ret
    exact ⟨rfl, st0⟩
  · have e : top ⟨2, p, n⟩ = p - 1 := by simp [top]
    rw [e]
    have hq := isPrime_bd h1
    obtain ⟨q1, q2⟩ : 2 ≤ p ∧ p ≤ 1000003 := hq
    clear e h h1 h2
    go_enter Tryd.func42, Tryd.ntmps42
    go_wp2
    go_ret
    exact ⟨rfl, st0⟩
  · have e : top ⟨3, p, n⟩ = p := by simp [top]
    rw [e]
    clear e h h1 h2 h3
    go_enter Tryd.func42, Tryd.ntmps42
    go_wp2
    go_ret
    exact ⟨rfl, st0⟩
  · have e : top ⟨4, p, n⟩ = p := by simp [top]
    rw [e]
    clear e h h1 h2 h3
    go_enter Tryd.func42, Tryd.ntmps42
    go_wp2
    go_ret
    exact ⟨rfl, st0⟩
  · have e : top ⟨5, p, n⟩ = p := by simp [top]
    rw [e]
    clear e h h1 h2 h3
    go_enter Tryd.func42, Tryd.ntmps42
    go_wp2
    go_ret
    exact ⟨rfl, st0⟩
  · have hb := pow_bd h2 h3
    obtain ⟨m, hm⟩ : ∃ m : Nat, n = (m : Int) := ⟨n.toNat, by have : (1 : Int) ≤ n := h2; omega⟩
    subst hm
    have hm1 : 1 ≤ m := by have : (1 : Int) ≤ (m : Int) := h2; omega
    have hm2 : m ≤ 20 := by have : (m : Int) ≤ 20 := h3; omega
    have e : top ⟨6, p, (m : Int)⟩ = 2 ^ m - 1 := by simp [top]
    rw [e]
    obtain ⟨q1, q2⟩ : 2 ≤ (2 : Int) ^ m ∧ (2 : Int) ^ m ≤ 1048576 := by simpa using hb
    clear e hb h h1 h2 h3
    go_enter Tryd.func42, Tryd.ntmps42
    go_wp2
    go_ret
    exact ⟨rfl, st0⟩
  · have e : top ⟨7, p, n⟩ = p - 1 := by simp [top]
    rw [e]
    have hq := isPrime_bd h1
    obtain ⟨q1, q2⟩ : 2 ≤ p ∧ p ≤ 1000003 := hq
    clear e h h1 h2 h3
    go_enter Tryd.func42, Tryd.ntmps42
    go_wp2
    go_ret
    exact ⟨rfl, st0⟩
  · have e : top ⟨8, p, n⟩ = p - 1 := by simp [top]
    rw [e]
    have hq := isPrime_bd h1
    obtain ⟨q1, q2⟩ : 2 ≤ p ∧ p ≤ 1000003 := hq
    clear e h h1 h2 h3
    go_enter Tryd.func42, Tryd.ntmps42
    go_wp2
    go_ret
    exact ⟨rfl, st0⟩

set_option maxHeartbeats 1600000 in
theorem l02Top_c (k p n : Int) (W : World) (h : ringOk ⟨k, p, n⟩ = true) : Calls Tryd.prog 29 #[.agg #[.int .i64 k, .int .i64 p, .int .i64 n]] W (RetV W (.int .i64 (top ⟨k, p, n⟩))) := by
  have st0 := Step.alloc W (.cells #[.int .i64 k, .int .i64 p, .int .i64 n] 29)
  rcases ringOk_cases h with ⟨rfl, h1, h2⟩ | ⟨rfl, h1, h2⟩ | ⟨rfl, h1, h2, h3⟩ | ⟨rfl, h1, h2, h3⟩ | ⟨rfl, h1, h2, h3⟩ | ⟨rfl, h1, h2, h3⟩ | ⟨rfl, h1, h2, h3⟩ | ⟨rfl, h1, h2, h3⟩
  · have e : top ⟨1, p, n⟩ = 1 := by simp [top]
    rw [e]
    clear e h h1 h2
    go_enter Tryd.func29, Tryd.ntmps29
    go_wp2
    go_ret
    exact ⟨rfl, st0⟩
  · have e : top ⟨2, p, n⟩ = p - 1 := by simp [top]
    rw [e]
    have hq := isPrime_bd h1
    obtain ⟨q1, q2⟩ : 2 ≤ p ∧ p ≤ 1000003 := hq
    clear e h h1 h2
    go_enter Tryd.func29, Tryd.ntmps29
    go_wp2
    go_ret
    exact ⟨rfl, st0⟩
  · have e : top ⟨3, p, n⟩ = p := by simp [top]
    rw [e]
    clear e h h1 h2 h3
    go_enter Tryd.func29, Tryd.ntmps29
    go_wp2
    go_ret
    exact ⟨rfl, st0⟩
  · have e : top ⟨4, p, n⟩ = p := by simp [top]
    rw [e]
    clear e h h1 h2 h3
    go_enter Tryd.func29, Tryd.ntmps29
    go_wp2
    go_ret
    exact ⟨rfl, st0⟩
  · have e : top ⟨5, p, n⟩ = p := by simp [top]
    rw [e]
    clear e h h1 h2 h3
    go_enter Tryd.func29, Tryd.ntmps29
    go_wp2
    go_ret
    exact ⟨rfl, st0⟩
  · have hb := pow_bd h2 h3
    obtain ⟨m, hm⟩ : ∃ m : Nat, n = (m : Int) := ⟨n.toNat, by have : (1 : Int) ≤ n := h2; omega⟩
    subst hm
    have hm1 : 1 ≤ m := by have : (1 : Int) ≤ (m : Int) := h2; omega
    have hm2 : m ≤ 20 := by have : (m : Int) ≤ 20 := h3; omega
    have e : top ⟨6, p, (m : Int)⟩ = 2 ^ m - 1 := by simp [top]
    rw [e]
    obtain ⟨q1, q2⟩ : 2 ≤ (2 : Int) ^ m ∧ (2 : Int) ^ m ≤ 1048576 := by simpa using hb
    clear e hb h h1 h2 h3
    go_enter Tryd.func29, Tryd.ntmps29
    go_wp2
    go_ret
    exact ⟨rfl, st0⟩
  · have e : top ⟨7, p, n⟩ = p - 1 := by simp [top]
    rw [e]
    have hq := isPrime_bd h1
    obtain ⟨q1, q2⟩ : 2 ≤ p ∧ p ≤ 1000003 := hq
    clear e h h1 h2 h3
    go_enter Tryd.func29, Tryd.ntmps29
    go_wp2
    go_ret
    exact ⟨rfl, st0⟩
  · have e : top ⟨8, p, n⟩ = p - 1 := by simp [top]
    rw [e]
    have hq := isPrime_bd h1
    obtain ⟨q1, q2⟩ : 2 ≤ p ∧ p ≤ 1000003 := hq
    clear e h h1 h2 h3
    go_enter Tryd.func29, Tryd.ntmps29
    go_wp2
    go_ret
    exact ⟨rfl, st0⟩

end Go.Proofs.YtodlbhjnmdhjiaaDoor

/-
  Contracts: what rings are right, in the program. No condition.
-/
namespace Go.Proofs.YtodlbhjnmdhjiaaDoor
open Go.RowKit Plain

set_option maxHeartbeats 4000000 in
theorem iRingOk_c (k p n : Int) (W : World) : Calls Tryd.prog 31 #[.agg #[.int .i64 k, .int .i64 p, .int .i64 n]] W (RetV W (.bool (ringOk ⟨k, p, n⟩))) := by
  have st0 := Step.alloc W (.cells #[.int .i64 k, .int .i64 p, .int .i64 n] 29)
  by_cases h1 : k = 1
  · subst h1
    by_cases g0 : p = 0
    · by_cases g1 : n = 0
      · have HR := Lib.hid (show ringOk ⟨1, p, n⟩ = true by simp [ringOk, g0, g1])
        subst g0
        subst g1
        go_enter Tryd.func31, Tryd.ntmps31
        go_wp2_with (first | (go_at_call 40; refine (iIsPrime_c _ _).mono ?_; rintro e w' ⟨rfl, rfl⟩))
        go_ret
        first | exact ⟨ret_bool HR.out.symm, st0⟩ | exact ⟨ret_bool (by rw [HR.out]; simp; omega), st0⟩
      · have HR := Lib.hid (show ringOk ⟨1, p, n⟩ = false by simp [ringOk, g0, g1])
        subst g0
        have bg1 : (n == 0) = false := by simpa using g1
        have cg1 : (n != 0) = true := by simpa using g1
        go_enter Tryd.func31, Tryd.ntmps31
        go_wp2_with (first | (go_at_call 40; refine (iIsPrime_c _ _).mono ?_; rintro e w' ⟨rfl, rfl⟩))
        go_ret
        first | exact ⟨ret_bool HR.out.symm, st0⟩ | exact ⟨ret_bool (by rw [HR.out]; simp; omega), st0⟩
    · have HR := Lib.hid (show ringOk ⟨1, p, n⟩ = false by simp [ringOk, g0])
      have bg0 : (p == 0) = false := by simpa using g0
      have cg0 : (p != 0) = true := by simpa using g0
      go_enter Tryd.func31, Tryd.ntmps31
      go_wp2_with (first | (go_at_call 40; refine (iIsPrime_c _ _).mono ?_; rintro e w' ⟨rfl, rfl⟩))
      go_ret
      first | exact ⟨ret_bool HR.out.symm, st0⟩ | exact ⟨ret_bool (by rw [HR.out]; simp; omega), st0⟩
  have t1 : (k == 1) = false := by simpa using h1
  by_cases h2 : k = 2
  · subst h2
    have hpb := @isPrime_bd p
    by_cases g0 : isPrime p = true
    · by_cases g1 : n = 0
      · have HR := Lib.hid (show ringOk ⟨2, p, n⟩ = true by simp [ringOk, g0, g1])
        subst g1
        clear hpb
        go_enter Tryd.func31, Tryd.ntmps31
        go_wp2_with (first | (go_at_call 40; refine (iIsPrime_c _ _).mono ?_; rintro e w' ⟨rfl, rfl⟩))
        go_ret
        first | exact ⟨ret_bool HR.out.symm, st0⟩ | exact ⟨ret_bool (by rw [HR.out]; simp; omega), st0⟩
      · have HR := Lib.hid (show ringOk ⟨2, p, n⟩ = false by simp [ringOk, g0, g1])
        have bg1 : (n == 0) = false := by simpa using g1
        have cg1 : (n != 0) = true := by simpa using g1
        clear hpb
        go_enter Tryd.func31, Tryd.ntmps31
        go_wp2_with (first | (go_at_call 40; refine (iIsPrime_c _ _).mono ?_; rintro e w' ⟨rfl, rfl⟩))
        go_ret
        first | exact ⟨ret_bool HR.out.symm, st0⟩ | exact ⟨ret_bool (by rw [HR.out]; simp; omega), st0⟩
    · have HR := Lib.hid (show ringOk ⟨2, p, n⟩ = false by simp [ringOk, g0])
      replace g0 : isPrime p = false := by simpa using g0
      clear hpb
      go_enter Tryd.func31, Tryd.ntmps31
      go_wp2_with (first | (go_at_call 40; refine (iIsPrime_c _ _).mono ?_; rintro e w' ⟨rfl, rfl⟩))
      go_ret
      first | exact ⟨ret_bool HR.out.symm, st0⟩ | exact ⟨ret_bool (by rw [HR.out]; simp; omega), st0⟩
  have t2 : (k == 2) = false := by simpa using h2
  by_cases h3 : k = 3
  · subst h3
    by_cases g0 : 1 ≤ p
    · by_cases g1 : p ≤ 1000000
      · by_cases g2 : n = 0
        · have HR := Lib.hid (show ringOk ⟨3, p, n⟩ = true by simp [ringOk, g0, g1, g2])
          subst g2
          go_enter Tryd.func31, Tryd.ntmps31
          go_wp2_with (first | (go_at_call 40; refine (iIsPrime_c _ _).mono ?_; rintro e w' ⟨rfl, rfl⟩))
          go_ret
          first | exact ⟨ret_bool HR.out.symm, st0⟩ | exact ⟨ret_bool (by rw [HR.out]; simp; omega), st0⟩
        · have HR := Lib.hid (show ringOk ⟨3, p, n⟩ = false by simp [ringOk, g0, g1, g2])
          have bg2 : (n == 0) = false := by simpa using g2
          have cg2 : (n != 0) = true := by simpa using g2
          go_enter Tryd.func31, Tryd.ntmps31
          go_wp2_with (first | (go_at_call 40; refine (iIsPrime_c _ _).mono ?_; rintro e w' ⟨rfl, rfl⟩))
          go_ret
          first | exact ⟨ret_bool HR.out.symm, st0⟩ | exact ⟨ret_bool (by rw [HR.out]; simp; omega), st0⟩
      · have HR := Lib.hid (show ringOk ⟨3, p, n⟩ = false by simp [ringOk, g0, g1])
        go_enter Tryd.func31, Tryd.ntmps31
        go_wp2_with (first | (go_at_call 40; refine (iIsPrime_c _ _).mono ?_; rintro e w' ⟨rfl, rfl⟩))
        go_ret
        first | exact ⟨ret_bool HR.out.symm, st0⟩ | exact ⟨ret_bool (by rw [HR.out]; simp; omega), st0⟩
    · have HR := Lib.hid (show ringOk ⟨3, p, n⟩ = false by simp [ringOk, g0])
      go_enter Tryd.func31, Tryd.ntmps31
      go_wp2_with (first | (go_at_call 40; refine (iIsPrime_c _ _).mono ?_; rintro e w' ⟨rfl, rfl⟩))
      go_ret
      first | exact ⟨ret_bool HR.out.symm, st0⟩ | exact ⟨ret_bool (by rw [HR.out]; simp; omega), st0⟩
  have t3 : (k == 3) = false := by simpa using h3
  by_cases h4 : k = 4
  · subst h4
    by_cases g0 : 1 ≤ p
    · by_cases g1 : p ≤ 1000000
      · by_cases g2 : n = 0
        · have HR := Lib.hid (show ringOk ⟨4, p, n⟩ = true by simp [ringOk, g0, g1, g2])
          subst g2
          go_enter Tryd.func31, Tryd.ntmps31
          go_wp2_with (first | (go_at_call 40; refine (iIsPrime_c _ _).mono ?_; rintro e w' ⟨rfl, rfl⟩))
          go_ret
          first | exact ⟨ret_bool HR.out.symm, st0⟩ | exact ⟨ret_bool (by rw [HR.out]; simp; omega), st0⟩
        · have HR := Lib.hid (show ringOk ⟨4, p, n⟩ = false by simp [ringOk, g0, g1, g2])
          have bg2 : (n == 0) = false := by simpa using g2
          have cg2 : (n != 0) = true := by simpa using g2
          go_enter Tryd.func31, Tryd.ntmps31
          go_wp2_with (first | (go_at_call 40; refine (iIsPrime_c _ _).mono ?_; rintro e w' ⟨rfl, rfl⟩))
          go_ret
          first | exact ⟨ret_bool HR.out.symm, st0⟩ | exact ⟨ret_bool (by rw [HR.out]; simp; omega), st0⟩
      · have HR := Lib.hid (show ringOk ⟨4, p, n⟩ = false by simp [ringOk, g0, g1])
        go_enter Tryd.func31, Tryd.ntmps31
        go_wp2_with (first | (go_at_call 40; refine (iIsPrime_c _ _).mono ?_; rintro e w' ⟨rfl, rfl⟩))
        go_ret
        first | exact ⟨ret_bool HR.out.symm, st0⟩ | exact ⟨ret_bool (by rw [HR.out]; simp; omega), st0⟩
    · have HR := Lib.hid (show ringOk ⟨4, p, n⟩ = false by simp [ringOk, g0])
      go_enter Tryd.func31, Tryd.ntmps31
      go_wp2_with (first | (go_at_call 40; refine (iIsPrime_c _ _).mono ?_; rintro e w' ⟨rfl, rfl⟩))
      go_ret
      first | exact ⟨ret_bool HR.out.symm, st0⟩ | exact ⟨ret_bool (by rw [HR.out]; simp; omega), st0⟩
  have t4 : (k == 4) = false := by simpa using h4
  by_cases h5 : k = 5
  · subst h5
    by_cases g0 : 1 ≤ p
    · by_cases g1 : p ≤ 1000000
      · by_cases g2 : n = 0
        · have HR := Lib.hid (show ringOk ⟨5, p, n⟩ = true by simp [ringOk, g0, g1, g2])
          subst g2
          go_enter Tryd.func31, Tryd.ntmps31
          go_wp2_with (first | (go_at_call 40; refine (iIsPrime_c _ _).mono ?_; rintro e w' ⟨rfl, rfl⟩))
          go_ret
          first | exact ⟨ret_bool HR.out.symm, st0⟩ | exact ⟨ret_bool (by rw [HR.out]; simp; omega), st0⟩
        · have HR := Lib.hid (show ringOk ⟨5, p, n⟩ = false by simp [ringOk, g0, g1, g2])
          have bg2 : (n == 0) = false := by simpa using g2
          have cg2 : (n != 0) = true := by simpa using g2
          go_enter Tryd.func31, Tryd.ntmps31
          go_wp2_with (first | (go_at_call 40; refine (iIsPrime_c _ _).mono ?_; rintro e w' ⟨rfl, rfl⟩))
          go_ret
          first | exact ⟨ret_bool HR.out.symm, st0⟩ | exact ⟨ret_bool (by rw [HR.out]; simp; omega), st0⟩
      · have HR := Lib.hid (show ringOk ⟨5, p, n⟩ = false by simp [ringOk, g0, g1])
        go_enter Tryd.func31, Tryd.ntmps31
        go_wp2_with (first | (go_at_call 40; refine (iIsPrime_c _ _).mono ?_; rintro e w' ⟨rfl, rfl⟩))
        go_ret
        first | exact ⟨ret_bool HR.out.symm, st0⟩ | exact ⟨ret_bool (by rw [HR.out]; simp; omega), st0⟩
    · have HR := Lib.hid (show ringOk ⟨5, p, n⟩ = false by simp [ringOk, g0])
      go_enter Tryd.func31, Tryd.ntmps31
      go_wp2_with (first | (go_at_call 40; refine (iIsPrime_c _ _).mono ?_; rintro e w' ⟨rfl, rfl⟩))
      go_ret
      first | exact ⟨ret_bool HR.out.symm, st0⟩ | exact ⟨ret_bool (by rw [HR.out]; simp; omega), st0⟩
  have t5 : (k == 5) = false := by simpa using h5
  by_cases h6 : k = 6
  · subst h6
    by_cases g0 : p = 0
    · by_cases g1 : 1 ≤ n
      · by_cases g2 : n ≤ 20
        · have HR := Lib.hid (show ringOk ⟨6, p, n⟩ = true by simp [ringOk, g0, g1, g2])
          subst g0
          go_enter Tryd.func31, Tryd.ntmps31
          go_wp2_with (first | (go_at_call 40; refine (iIsPrime_c _ _).mono ?_; rintro e w' ⟨rfl, rfl⟩))
          go_ret
          first | exact ⟨ret_bool HR.out.symm, st0⟩ | exact ⟨ret_bool (by rw [HR.out]; simp; omega), st0⟩
        · have HR := Lib.hid (show ringOk ⟨6, p, n⟩ = false by simp [ringOk, g0, g1, g2])
          subst g0
          go_enter Tryd.func31, Tryd.ntmps31
          go_wp2_with (first | (go_at_call 40; refine (iIsPrime_c _ _).mono ?_; rintro e w' ⟨rfl, rfl⟩))
          go_ret
          first | exact ⟨ret_bool HR.out.symm, st0⟩ | exact ⟨ret_bool (by rw [HR.out]; simp; omega), st0⟩
      · have HR := Lib.hid (show ringOk ⟨6, p, n⟩ = false by simp [ringOk, g0, g1])
        subst g0
        go_enter Tryd.func31, Tryd.ntmps31
        go_wp2_with (first | (go_at_call 40; refine (iIsPrime_c _ _).mono ?_; rintro e w' ⟨rfl, rfl⟩))
        go_ret
        first | exact ⟨ret_bool HR.out.symm, st0⟩ | exact ⟨ret_bool (by rw [HR.out]; simp; omega), st0⟩
    · have HR := Lib.hid (show ringOk ⟨6, p, n⟩ = false by simp [ringOk, g0])
      have bg0 : (p == 0) = false := by simpa using g0
      have cg0 : (p != 0) = true := by simpa using g0
      go_enter Tryd.func31, Tryd.ntmps31
      go_wp2_with (first | (go_at_call 40; refine (iIsPrime_c _ _).mono ?_; rintro e w' ⟨rfl, rfl⟩))
      go_ret
      first | exact ⟨ret_bool HR.out.symm, st0⟩ | exact ⟨ret_bool (by rw [HR.out]; simp; omega), st0⟩
  have t6 : (k == 6) = false := by simpa using h6
  by_cases h7 : k = 7
  · subst h7
    have hpb := @isPrime_bd p
    by_cases g0 : isPrime p = true
    · by_cases g1 : 1 ≤ n
      · by_cases g2 : n ≤ 6
        · have HR := Lib.hid (show ringOk ⟨7, p, n⟩ = true by simp [ringOk, g0, g1, g2])
          clear hpb
          go_enter Tryd.func31, Tryd.ntmps31
          go_wp2_with (first | (go_at_call 40; refine (iIsPrime_c _ _).mono ?_; rintro e w' ⟨rfl, rfl⟩))
          go_ret
          first | exact ⟨ret_bool HR.out.symm, st0⟩ | exact ⟨ret_bool (by rw [HR.out]; simp; omega), st0⟩
        · have HR := Lib.hid (show ringOk ⟨7, p, n⟩ = false by simp [ringOk, g0, g1, g2])
          clear hpb
          go_enter Tryd.func31, Tryd.ntmps31
          go_wp2_with (first | (go_at_call 40; refine (iIsPrime_c _ _).mono ?_; rintro e w' ⟨rfl, rfl⟩))
          go_ret
          first | exact ⟨ret_bool HR.out.symm, st0⟩ | exact ⟨ret_bool (by rw [HR.out]; simp; omega), st0⟩
      · have HR := Lib.hid (show ringOk ⟨7, p, n⟩ = false by simp [ringOk, g0, g1])
        clear hpb
        go_enter Tryd.func31, Tryd.ntmps31
        go_wp2_with (first | (go_at_call 40; refine (iIsPrime_c _ _).mono ?_; rintro e w' ⟨rfl, rfl⟩))
        go_ret
        first | exact ⟨ret_bool HR.out.symm, st0⟩ | exact ⟨ret_bool (by rw [HR.out]; simp; omega), st0⟩
    · have HR := Lib.hid (show ringOk ⟨7, p, n⟩ = false by simp [ringOk, g0])
      replace g0 : isPrime p = false := by simpa using g0
      clear hpb
      go_enter Tryd.func31, Tryd.ntmps31
      go_wp2_with (first | (go_at_call 40; refine (iIsPrime_c _ _).mono ?_; rintro e w' ⟨rfl, rfl⟩))
      go_ret
      first | exact ⟨ret_bool HR.out.symm, st0⟩ | exact ⟨ret_bool (by rw [HR.out]; simp; omega), st0⟩
  have t7 : (k == 7) = false := by simpa using h7
  by_cases h8 : k = 8
  · subst h8
    have hpb := @isPrime_bd p
    by_cases g0 : isPrime p = true
    · by_cases g1 : p = 2
      · have HR := Lib.hid (show ringOk ⟨8, p, n⟩ = false by simp [ringOk, g1])
        have z3 : p ≤ 2 := by omega
        have z4 : 2 ≤ p := by omega
        have cg1 : (p != 2) = false := by simpa using g1
        clear g1
        clear hpb
        go_enter Tryd.func31, Tryd.ntmps31
        go_wp2_with (first | (go_at_call 40; refine (iIsPrime_c _ _).mono ?_; rintro e w' ⟨rfl, rfl⟩))
        go_ret
        first | exact ⟨ret_bool HR.out.symm, st0⟩ | exact ⟨ret_bool (by rw [HR.out]; simp; omega), st0⟩
      · by_cases g2 : n = 0
        · have HR := Lib.hid (show ringOk ⟨8, p, n⟩ = true by simp [ringOk, g0, g1, g2])
          have bg1 : (p == 2) = false := by simpa using g1
          have cg1 : (p != 2) = true := by simpa using g1
          subst g2
          clear hpb
          go_enter Tryd.func31, Tryd.ntmps31
          go_wp2_with (first | (go_at_call 40; refine (iIsPrime_c _ _).mono ?_; rintro e w' ⟨rfl, rfl⟩))
          go_ret
          first | exact ⟨ret_bool HR.out.symm, st0⟩ | exact ⟨ret_bool (by rw [HR.out]; simp; omega), st0⟩
        · have HR := Lib.hid (show ringOk ⟨8, p, n⟩ = false by simp [ringOk, g0, g1, g2])
          have bg1 : (p == 2) = false := by simpa using g1
          have cg1 : (p != 2) = true := by simpa using g1
          have bg2 : (n == 0) = false := by simpa using g2
          have cg2 : (n != 0) = true := by simpa using g2
          clear hpb
          go_enter Tryd.func31, Tryd.ntmps31
          go_wp2_with (first | (go_at_call 40; refine (iIsPrime_c _ _).mono ?_; rintro e w' ⟨rfl, rfl⟩))
          go_ret
          first | exact ⟨ret_bool HR.out.symm, st0⟩ | exact ⟨ret_bool (by rw [HR.out]; simp; omega), st0⟩
    · have HR := Lib.hid (show ringOk ⟨8, p, n⟩ = false by simp [ringOk, g0])
      replace g0 : isPrime p = false := by simpa using g0
      clear hpb
      go_enter Tryd.func31, Tryd.ntmps31
      go_wp2_with (first | (go_at_call 40; refine (iIsPrime_c _ _).mono ?_; rintro e w' ⟨rfl, rfl⟩))
      go_ret
      first | exact ⟨ret_bool HR.out.symm, st0⟩ | exact ⟨ret_bool (by rw [HR.out]; simp; omega), st0⟩
  have t8 : (k == 8) = false := by simpa using h8
  have HR := Lib.hid (show ringOk ⟨k, p, n⟩ = false by simp [ringOk, h1, h2, h3, h4, h5, h6, h7, h8])
  clear h1 h2 h3 h4 h5 h6 h7 h8
  go_enter Tryd.func31, Tryd.ntmps31
  go_wp2_with fail
  go_ret
  exact ⟨ret_bool HR.out.symm, st0⟩

end Go.Proofs.YtodlbhjnmdhjiaaDoor

/-
  Contracts: what rings are right, in the reference. No condition.
-/
namespace Go.Proofs.YtodlbhjnmdhjiaaDoor
open Go.RowKit Plain

set_option maxHeartbeats 4000000 in
theorem sRingOk_c (k p n : Int) (W : World) : Calls Tryd.prog 26 #[.agg #[.int .i64 k, .int .i64 p, .int .i64 n]] W (RetV W (.bool (ringOk ⟨k, p, n⟩))) := by
  have st0 := Step.alloc W (.cells #[.int .i64 k, .int .i64 p, .int .i64 n] 29)
  by_cases h1 : k = 1
  · subst h1
    by_cases g0 : p = 0
    · by_cases g1 : n = 0
      · have HR := Lib.hid (show ringOk ⟨1, p, n⟩ = true by simp [ringOk, g0, g1])
        subst g0
        subst g1
        go_enter Tryd.func26, Tryd.ntmps26
        go_wp2_with (first | (go_at_call 38; refine (sIsPrime_c _ _).mono ?_; rintro e w' ⟨rfl, rfl⟩) | (go_at_call 28; first | (refine (l01In_yes _ _ _ _ (by omega) (by omega)).mono ?_; rintro e w' ⟨rfl, rfl⟩) | (refine (l01In_no _ _ _ _ (by omega)).mono ?_; rintro e w' ⟨rfl, rfl⟩)))
        go_ret
        first | exact ⟨ret_bool HR.out.symm, st0⟩ | exact ⟨ret_bool (by rw [HR.out]; simp; omega), st0⟩
      · have HR := Lib.hid (show ringOk ⟨1, p, n⟩ = false by simp [ringOk, g0, g1])
        subst g0
        have bg1 : (n == 0) = false := by simpa using g1
        have cg1 : (n != 0) = true := by simpa using g1
        go_enter Tryd.func26, Tryd.ntmps26
        go_wp2_with (first | (go_at_call 38; refine (sIsPrime_c _ _).mono ?_; rintro e w' ⟨rfl, rfl⟩) | (go_at_call 28; first | (refine (l01In_yes _ _ _ _ (by omega) (by omega)).mono ?_; rintro e w' ⟨rfl, rfl⟩) | (refine (l01In_no _ _ _ _ (by omega)).mono ?_; rintro e w' ⟨rfl, rfl⟩)))
        go_ret
        first | exact ⟨ret_bool HR.out.symm, st0⟩ | exact ⟨ret_bool (by rw [HR.out]; simp; omega), st0⟩
    · have HR := Lib.hid (show ringOk ⟨1, p, n⟩ = false by simp [ringOk, g0])
      have bg0 : (p == 0) = false := by simpa using g0
      have cg0 : (p != 0) = true := by simpa using g0
      go_enter Tryd.func26, Tryd.ntmps26
      go_wp2_with (first | (go_at_call 38; refine (sIsPrime_c _ _).mono ?_; rintro e w' ⟨rfl, rfl⟩) | (go_at_call 28; first | (refine (l01In_yes _ _ _ _ (by omega) (by omega)).mono ?_; rintro e w' ⟨rfl, rfl⟩) | (refine (l01In_no _ _ _ _ (by omega)).mono ?_; rintro e w' ⟨rfl, rfl⟩)))
      go_ret
      first | exact ⟨ret_bool HR.out.symm, st0⟩ | exact ⟨ret_bool (by rw [HR.out]; simp; omega), st0⟩
  have t1 : (k == 1) = false := by simpa using h1
  by_cases h2 : k = 2
  · subst h2
    have hpb := @isPrime_bd p
    by_cases g0 : isPrime p = true
    · by_cases g1 : n = 0
      · have HR := Lib.hid (show ringOk ⟨2, p, n⟩ = true by simp [ringOk, g0, g1])
        subst g1
        clear hpb
        go_enter Tryd.func26, Tryd.ntmps26
        go_wp2_with (first | (go_at_call 38; refine (sIsPrime_c _ _).mono ?_; rintro e w' ⟨rfl, rfl⟩) | (go_at_call 28; first | (refine (l01In_yes _ _ _ _ (by omega) (by omega)).mono ?_; rintro e w' ⟨rfl, rfl⟩) | (refine (l01In_no _ _ _ _ (by omega)).mono ?_; rintro e w' ⟨rfl, rfl⟩)))
        go_ret
        first | exact ⟨ret_bool HR.out.symm, st0⟩ | exact ⟨ret_bool (by rw [HR.out]; simp; omega), st0⟩
      · have HR := Lib.hid (show ringOk ⟨2, p, n⟩ = false by simp [ringOk, g0, g1])
        have bg1 : (n == 0) = false := by simpa using g1
        have cg1 : (n != 0) = true := by simpa using g1
        clear hpb
        go_enter Tryd.func26, Tryd.ntmps26
        go_wp2_with (first | (go_at_call 38; refine (sIsPrime_c _ _).mono ?_; rintro e w' ⟨rfl, rfl⟩) | (go_at_call 28; first | (refine (l01In_yes _ _ _ _ (by omega) (by omega)).mono ?_; rintro e w' ⟨rfl, rfl⟩) | (refine (l01In_no _ _ _ _ (by omega)).mono ?_; rintro e w' ⟨rfl, rfl⟩)))
        go_ret
        first | exact ⟨ret_bool HR.out.symm, st0⟩ | exact ⟨ret_bool (by rw [HR.out]; simp; omega), st0⟩
    · have HR := Lib.hid (show ringOk ⟨2, p, n⟩ = false by simp [ringOk, g0])
      replace g0 : isPrime p = false := by simpa using g0
      clear hpb
      go_enter Tryd.func26, Tryd.ntmps26
      go_wp2_with (first | (go_at_call 38; refine (sIsPrime_c _ _).mono ?_; rintro e w' ⟨rfl, rfl⟩) | (go_at_call 28; first | (refine (l01In_yes _ _ _ _ (by omega) (by omega)).mono ?_; rintro e w' ⟨rfl, rfl⟩) | (refine (l01In_no _ _ _ _ (by omega)).mono ?_; rintro e w' ⟨rfl, rfl⟩)))
      go_ret
      first | exact ⟨ret_bool HR.out.symm, st0⟩ | exact ⟨ret_bool (by rw [HR.out]; simp; omega), st0⟩
  have t2 : (k == 2) = false := by simpa using h2
  by_cases h3 : k = 3
  · subst h3
    by_cases g0 : 1 ≤ p
    · by_cases g1 : p ≤ 1000000
      · by_cases g2 : n = 0
        · have HR := Lib.hid (show ringOk ⟨3, p, n⟩ = true by simp [ringOk, g0, g1, g2])
          subst g2
          go_enter Tryd.func26, Tryd.ntmps26
          go_wp2_with (first | (go_at_call 38; refine (sIsPrime_c _ _).mono ?_; rintro e w' ⟨rfl, rfl⟩) | (go_at_call 28; first | (refine (l01In_yes _ _ _ _ (by omega) (by omega)).mono ?_; rintro e w' ⟨rfl, rfl⟩) | (refine (l01In_no _ _ _ _ (by omega)).mono ?_; rintro e w' ⟨rfl, rfl⟩)))
          go_ret
          first | exact ⟨ret_bool HR.out.symm, st0⟩ | exact ⟨ret_bool (by rw [HR.out]; simp; omega), st0⟩
        · have HR := Lib.hid (show ringOk ⟨3, p, n⟩ = false by simp [ringOk, g0, g1, g2])
          have bg2 : (n == 0) = false := by simpa using g2
          have cg2 : (n != 0) = true := by simpa using g2
          go_enter Tryd.func26, Tryd.ntmps26
          go_wp2_with (first | (go_at_call 38; refine (sIsPrime_c _ _).mono ?_; rintro e w' ⟨rfl, rfl⟩) | (go_at_call 28; first | (refine (l01In_yes _ _ _ _ (by omega) (by omega)).mono ?_; rintro e w' ⟨rfl, rfl⟩) | (refine (l01In_no _ _ _ _ (by omega)).mono ?_; rintro e w' ⟨rfl, rfl⟩)))
          go_ret
          first | exact ⟨ret_bool HR.out.symm, st0⟩ | exact ⟨ret_bool (by rw [HR.out]; simp; omega), st0⟩
      · have HR := Lib.hid (show ringOk ⟨3, p, n⟩ = false by simp [ringOk, g0, g1])
        go_enter Tryd.func26, Tryd.ntmps26
        go_wp2_with (first | (go_at_call 38; refine (sIsPrime_c _ _).mono ?_; rintro e w' ⟨rfl, rfl⟩) | (go_at_call 28; first | (refine (l01In_yes _ _ _ _ (by omega) (by omega)).mono ?_; rintro e w' ⟨rfl, rfl⟩) | (refine (l01In_no _ _ _ _ (by omega)).mono ?_; rintro e w' ⟨rfl, rfl⟩)))
        go_ret
        first | exact ⟨ret_bool HR.out.symm, st0⟩ | exact ⟨ret_bool (by rw [HR.out]; simp; omega), st0⟩
    · have HR := Lib.hid (show ringOk ⟨3, p, n⟩ = false by simp [ringOk, g0])
      go_enter Tryd.func26, Tryd.ntmps26
      go_wp2_with (first | (go_at_call 38; refine (sIsPrime_c _ _).mono ?_; rintro e w' ⟨rfl, rfl⟩) | (go_at_call 28; first | (refine (l01In_yes _ _ _ _ (by omega) (by omega)).mono ?_; rintro e w' ⟨rfl, rfl⟩) | (refine (l01In_no _ _ _ _ (by omega)).mono ?_; rintro e w' ⟨rfl, rfl⟩)))
      go_ret
      first | exact ⟨ret_bool HR.out.symm, st0⟩ | exact ⟨ret_bool (by rw [HR.out]; simp; omega), st0⟩
  have t3 : (k == 3) = false := by simpa using h3
  by_cases h4 : k = 4
  · subst h4
    by_cases g0 : 1 ≤ p
    · by_cases g1 : p ≤ 1000000
      · by_cases g2 : n = 0
        · have HR := Lib.hid (show ringOk ⟨4, p, n⟩ = true by simp [ringOk, g0, g1, g2])
          subst g2
          go_enter Tryd.func26, Tryd.ntmps26
          go_wp2_with (first | (go_at_call 38; refine (sIsPrime_c _ _).mono ?_; rintro e w' ⟨rfl, rfl⟩) | (go_at_call 28; first | (refine (l01In_yes _ _ _ _ (by omega) (by omega)).mono ?_; rintro e w' ⟨rfl, rfl⟩) | (refine (l01In_no _ _ _ _ (by omega)).mono ?_; rintro e w' ⟨rfl, rfl⟩)))
          go_ret
          first | exact ⟨ret_bool HR.out.symm, st0⟩ | exact ⟨ret_bool (by rw [HR.out]; simp; omega), st0⟩
        · have HR := Lib.hid (show ringOk ⟨4, p, n⟩ = false by simp [ringOk, g0, g1, g2])
          have bg2 : (n == 0) = false := by simpa using g2
          have cg2 : (n != 0) = true := by simpa using g2
          go_enter Tryd.func26, Tryd.ntmps26
          go_wp2_with (first | (go_at_call 38; refine (sIsPrime_c _ _).mono ?_; rintro e w' ⟨rfl, rfl⟩) | (go_at_call 28; first | (refine (l01In_yes _ _ _ _ (by omega) (by omega)).mono ?_; rintro e w' ⟨rfl, rfl⟩) | (refine (l01In_no _ _ _ _ (by omega)).mono ?_; rintro e w' ⟨rfl, rfl⟩)))
          go_ret
          first | exact ⟨ret_bool HR.out.symm, st0⟩ | exact ⟨ret_bool (by rw [HR.out]; simp; omega), st0⟩
      · have HR := Lib.hid (show ringOk ⟨4, p, n⟩ = false by simp [ringOk, g0, g1])
        go_enter Tryd.func26, Tryd.ntmps26
        go_wp2_with (first | (go_at_call 38; refine (sIsPrime_c _ _).mono ?_; rintro e w' ⟨rfl, rfl⟩) | (go_at_call 28; first | (refine (l01In_yes _ _ _ _ (by omega) (by omega)).mono ?_; rintro e w' ⟨rfl, rfl⟩) | (refine (l01In_no _ _ _ _ (by omega)).mono ?_; rintro e w' ⟨rfl, rfl⟩)))
        go_ret
        first | exact ⟨ret_bool HR.out.symm, st0⟩ | exact ⟨ret_bool (by rw [HR.out]; simp; omega), st0⟩
    · have HR := Lib.hid (show ringOk ⟨4, p, n⟩ = false by simp [ringOk, g0])
      go_enter Tryd.func26, Tryd.ntmps26
      go_wp2_with (first | (go_at_call 38; refine (sIsPrime_c _ _).mono ?_; rintro e w' ⟨rfl, rfl⟩) | (go_at_call 28; first | (refine (l01In_yes _ _ _ _ (by omega) (by omega)).mono ?_; rintro e w' ⟨rfl, rfl⟩) | (refine (l01In_no _ _ _ _ (by omega)).mono ?_; rintro e w' ⟨rfl, rfl⟩)))
      go_ret
      first | exact ⟨ret_bool HR.out.symm, st0⟩ | exact ⟨ret_bool (by rw [HR.out]; simp; omega), st0⟩
  have t4 : (k == 4) = false := by simpa using h4
  by_cases h5 : k = 5
  · subst h5
    by_cases g0 : 1 ≤ p
    · by_cases g1 : p ≤ 1000000
      · by_cases g2 : n = 0
        · have HR := Lib.hid (show ringOk ⟨5, p, n⟩ = true by simp [ringOk, g0, g1, g2])
          subst g2
          go_enter Tryd.func26, Tryd.ntmps26
          go_wp2_with (first | (go_at_call 38; refine (sIsPrime_c _ _).mono ?_; rintro e w' ⟨rfl, rfl⟩) | (go_at_call 28; first | (refine (l01In_yes _ _ _ _ (by omega) (by omega)).mono ?_; rintro e w' ⟨rfl, rfl⟩) | (refine (l01In_no _ _ _ _ (by omega)).mono ?_; rintro e w' ⟨rfl, rfl⟩)))
          go_ret
          first | exact ⟨ret_bool HR.out.symm, st0⟩ | exact ⟨ret_bool (by rw [HR.out]; simp; omega), st0⟩
        · have HR := Lib.hid (show ringOk ⟨5, p, n⟩ = false by simp [ringOk, g0, g1, g2])
          have bg2 : (n == 0) = false := by simpa using g2
          have cg2 : (n != 0) = true := by simpa using g2
          go_enter Tryd.func26, Tryd.ntmps26
          go_wp2_with (first | (go_at_call 38; refine (sIsPrime_c _ _).mono ?_; rintro e w' ⟨rfl, rfl⟩) | (go_at_call 28; first | (refine (l01In_yes _ _ _ _ (by omega) (by omega)).mono ?_; rintro e w' ⟨rfl, rfl⟩) | (refine (l01In_no _ _ _ _ (by omega)).mono ?_; rintro e w' ⟨rfl, rfl⟩)))
          go_ret
          first | exact ⟨ret_bool HR.out.symm, st0⟩ | exact ⟨ret_bool (by rw [HR.out]; simp; omega), st0⟩
      · have HR := Lib.hid (show ringOk ⟨5, p, n⟩ = false by simp [ringOk, g0, g1])
        go_enter Tryd.func26, Tryd.ntmps26
        go_wp2_with (first | (go_at_call 38; refine (sIsPrime_c _ _).mono ?_; rintro e w' ⟨rfl, rfl⟩) | (go_at_call 28; first | (refine (l01In_yes _ _ _ _ (by omega) (by omega)).mono ?_; rintro e w' ⟨rfl, rfl⟩) | (refine (l01In_no _ _ _ _ (by omega)).mono ?_; rintro e w' ⟨rfl, rfl⟩)))
        go_ret
        first | exact ⟨ret_bool HR.out.symm, st0⟩ | exact ⟨ret_bool (by rw [HR.out]; simp; omega), st0⟩
    · have HR := Lib.hid (show ringOk ⟨5, p, n⟩ = false by simp [ringOk, g0])
      go_enter Tryd.func26, Tryd.ntmps26
      go_wp2_with (first | (go_at_call 38; refine (sIsPrime_c _ _).mono ?_; rintro e w' ⟨rfl, rfl⟩) | (go_at_call 28; first | (refine (l01In_yes _ _ _ _ (by omega) (by omega)).mono ?_; rintro e w' ⟨rfl, rfl⟩) | (refine (l01In_no _ _ _ _ (by omega)).mono ?_; rintro e w' ⟨rfl, rfl⟩)))
      go_ret
      first | exact ⟨ret_bool HR.out.symm, st0⟩ | exact ⟨ret_bool (by rw [HR.out]; simp; omega), st0⟩
  have t5 : (k == 5) = false := by simpa using h5
  by_cases h6 : k = 6
  · subst h6
    by_cases g0 : p = 0
    · by_cases g1 : 1 ≤ n
      · by_cases g2 : n ≤ 20
        · have HR := Lib.hid (show ringOk ⟨6, p, n⟩ = true by simp [ringOk, g0, g1, g2])
          subst g0
          go_enter Tryd.func26, Tryd.ntmps26
          go_wp2_with (first | (go_at_call 38; refine (sIsPrime_c _ _).mono ?_; rintro e w' ⟨rfl, rfl⟩) | (go_at_call 28; first | (refine (l01In_yes _ _ _ _ (by omega) (by omega)).mono ?_; rintro e w' ⟨rfl, rfl⟩) | (refine (l01In_no _ _ _ _ (by omega)).mono ?_; rintro e w' ⟨rfl, rfl⟩)))
          go_ret
          first | exact ⟨ret_bool HR.out.symm, st0⟩ | exact ⟨ret_bool (by rw [HR.out]; simp; omega), st0⟩
        · have HR := Lib.hid (show ringOk ⟨6, p, n⟩ = false by simp [ringOk, g0, g1, g2])
          subst g0
          go_enter Tryd.func26, Tryd.ntmps26
          go_wp2_with (first | (go_at_call 38; refine (sIsPrime_c _ _).mono ?_; rintro e w' ⟨rfl, rfl⟩) | (go_at_call 28; first | (refine (l01In_yes _ _ _ _ (by omega) (by omega)).mono ?_; rintro e w' ⟨rfl, rfl⟩) | (refine (l01In_no _ _ _ _ (by omega)).mono ?_; rintro e w' ⟨rfl, rfl⟩)))
          go_ret
          first | exact ⟨ret_bool HR.out.symm, st0⟩ | exact ⟨ret_bool (by rw [HR.out]; simp; omega), st0⟩
      · have HR := Lib.hid (show ringOk ⟨6, p, n⟩ = false by simp [ringOk, g0, g1])
        subst g0
        go_enter Tryd.func26, Tryd.ntmps26
        go_wp2_with (first | (go_at_call 38; refine (sIsPrime_c _ _).mono ?_; rintro e w' ⟨rfl, rfl⟩) | (go_at_call 28; first | (refine (l01In_yes _ _ _ _ (by omega) (by omega)).mono ?_; rintro e w' ⟨rfl, rfl⟩) | (refine (l01In_no _ _ _ _ (by omega)).mono ?_; rintro e w' ⟨rfl, rfl⟩)))
        go_ret
        first | exact ⟨ret_bool HR.out.symm, st0⟩ | exact ⟨ret_bool (by rw [HR.out]; simp; omega), st0⟩
    · have HR := Lib.hid (show ringOk ⟨6, p, n⟩ = false by simp [ringOk, g0])
      have bg0 : (p == 0) = false := by simpa using g0
      have cg0 : (p != 0) = true := by simpa using g0
      go_enter Tryd.func26, Tryd.ntmps26
      go_wp2_with (first | (go_at_call 38; refine (sIsPrime_c _ _).mono ?_; rintro e w' ⟨rfl, rfl⟩) | (go_at_call 28; first | (refine (l01In_yes _ _ _ _ (by omega) (by omega)).mono ?_; rintro e w' ⟨rfl, rfl⟩) | (refine (l01In_no _ _ _ _ (by omega)).mono ?_; rintro e w' ⟨rfl, rfl⟩)))
      go_ret
      first | exact ⟨ret_bool HR.out.symm, st0⟩ | exact ⟨ret_bool (by rw [HR.out]; simp; omega), st0⟩
  have t6 : (k == 6) = false := by simpa using h6
  by_cases h7 : k = 7
  · subst h7
    have hpb := @isPrime_bd p
    by_cases g0 : isPrime p = true
    · by_cases g1 : 1 ≤ n
      · by_cases g2 : n ≤ 6
        · have HR := Lib.hid (show ringOk ⟨7, p, n⟩ = true by simp [ringOk, g0, g1, g2])
          clear hpb
          go_enter Tryd.func26, Tryd.ntmps26
          go_wp2_with (first | (go_at_call 38; refine (sIsPrime_c _ _).mono ?_; rintro e w' ⟨rfl, rfl⟩) | (go_at_call 28; first | (refine (l01In_yes _ _ _ _ (by omega) (by omega)).mono ?_; rintro e w' ⟨rfl, rfl⟩) | (refine (l01In_no _ _ _ _ (by omega)).mono ?_; rintro e w' ⟨rfl, rfl⟩)))
          go_ret
          first | exact ⟨ret_bool HR.out.symm, st0⟩ | exact ⟨ret_bool (by rw [HR.out]; simp; omega), st0⟩
        · have HR := Lib.hid (show ringOk ⟨7, p, n⟩ = false by simp [ringOk, g0, g1, g2])
          clear hpb
          go_enter Tryd.func26, Tryd.ntmps26
          go_wp2_with (first | (go_at_call 38; refine (sIsPrime_c _ _).mono ?_; rintro e w' ⟨rfl, rfl⟩) | (go_at_call 28; first | (refine (l01In_yes _ _ _ _ (by omega) (by omega)).mono ?_; rintro e w' ⟨rfl, rfl⟩) | (refine (l01In_no _ _ _ _ (by omega)).mono ?_; rintro e w' ⟨rfl, rfl⟩)))
          go_ret
          first | exact ⟨ret_bool HR.out.symm, st0⟩ | exact ⟨ret_bool (by rw [HR.out]; simp; omega), st0⟩
      · have HR := Lib.hid (show ringOk ⟨7, p, n⟩ = false by simp [ringOk, g0, g1])
        clear hpb
        go_enter Tryd.func26, Tryd.ntmps26
        go_wp2_with (first | (go_at_call 38; refine (sIsPrime_c _ _).mono ?_; rintro e w' ⟨rfl, rfl⟩) | (go_at_call 28; first | (refine (l01In_yes _ _ _ _ (by omega) (by omega)).mono ?_; rintro e w' ⟨rfl, rfl⟩) | (refine (l01In_no _ _ _ _ (by omega)).mono ?_; rintro e w' ⟨rfl, rfl⟩)))
        go_ret
        first | exact ⟨ret_bool HR.out.symm, st0⟩ | exact ⟨ret_bool (by rw [HR.out]; simp; omega), st0⟩
    · have HR := Lib.hid (show ringOk ⟨7, p, n⟩ = false by simp [ringOk, g0])
      replace g0 : isPrime p = false := by simpa using g0
      clear hpb
      go_enter Tryd.func26, Tryd.ntmps26
      go_wp2_with (first | (go_at_call 38; refine (sIsPrime_c _ _).mono ?_; rintro e w' ⟨rfl, rfl⟩) | (go_at_call 28; first | (refine (l01In_yes _ _ _ _ (by omega) (by omega)).mono ?_; rintro e w' ⟨rfl, rfl⟩) | (refine (l01In_no _ _ _ _ (by omega)).mono ?_; rintro e w' ⟨rfl, rfl⟩)))
      go_ret
      first | exact ⟨ret_bool HR.out.symm, st0⟩ | exact ⟨ret_bool (by rw [HR.out]; simp; omega), st0⟩
  have t7 : (k == 7) = false := by simpa using h7
  by_cases h8 : k = 8
  · subst h8
    have hpb := @isPrime_bd p
    by_cases g0 : isPrime p = true
    · by_cases g1 : p = 2
      · have HR := Lib.hid (show ringOk ⟨8, p, n⟩ = false by simp [ringOk, g1])
        have z3 : p ≤ 2 := by omega
        have z4 : 2 ≤ p := by omega
        have cg1 : (p != 2) = false := by simpa using g1
        clear g1
        obtain ⟨z1, z2⟩ := hpb (by assumption)
        clear hpb
        go_enter Tryd.func26, Tryd.ntmps26
        go_wp2_with (first | (go_at_call 38; refine (sIsPrime_c _ _).mono ?_; rintro e w' ⟨rfl, rfl⟩) | (go_at_call 28; first | (refine (l01In_yes _ _ _ _ (by omega) (by omega)).mono ?_; rintro e w' ⟨rfl, rfl⟩) | (refine (l01In_no _ _ _ _ (by omega)).mono ?_; rintro e w' ⟨rfl, rfl⟩)))
        go_ret
        first | exact ⟨ret_bool HR.out.symm, st0⟩ | exact ⟨ret_bool (by rw [HR.out]; simp; omega), st0⟩
      · by_cases g2 : n = 0
        · have HR := Lib.hid (show ringOk ⟨8, p, n⟩ = true by simp [ringOk, g0, g1, g2])
          have bg1 : (p == 2) = false := by simpa using g1
          have cg1 : (p != 2) = true := by simpa using g1
          subst g2
          obtain ⟨z1, z2⟩ := hpb (by assumption)
          have z3 : 2 < p := by omega
          clear hpb
          go_enter Tryd.func26, Tryd.ntmps26
          go_wp2_with (first | (go_at_call 38; refine (sIsPrime_c _ _).mono ?_; rintro e w' ⟨rfl, rfl⟩) | (go_at_call 28; first | (refine (l01In_yes _ _ _ _ (by omega) (by omega)).mono ?_; rintro e w' ⟨rfl, rfl⟩) | (refine (l01In_no _ _ _ _ (by omega)).mono ?_; rintro e w' ⟨rfl, rfl⟩)))
          go_ret
          first | exact ⟨ret_bool HR.out.symm, st0⟩ | exact ⟨ret_bool (by rw [HR.out]; simp; omega), st0⟩
        · have HR := Lib.hid (show ringOk ⟨8, p, n⟩ = false by simp [ringOk, g0, g1, g2])
          have bg1 : (p == 2) = false := by simpa using g1
          have cg1 : (p != 2) = true := by simpa using g1
          have bg2 : (n == 0) = false := by simpa using g2
          have cg2 : (n != 0) = true := by simpa using g2
          obtain ⟨z1, z2⟩ := hpb (by assumption)
          have z3 : 2 < p := by omega
          clear hpb
          go_enter Tryd.func26, Tryd.ntmps26
          go_wp2_with (first | (go_at_call 38; refine (sIsPrime_c _ _).mono ?_; rintro e w' ⟨rfl, rfl⟩) | (go_at_call 28; first | (refine (l01In_yes _ _ _ _ (by omega) (by omega)).mono ?_; rintro e w' ⟨rfl, rfl⟩) | (refine (l01In_no _ _ _ _ (by omega)).mono ?_; rintro e w' ⟨rfl, rfl⟩)))
          go_ret
          first | exact ⟨ret_bool HR.out.symm, st0⟩ | exact ⟨ret_bool (by rw [HR.out]; simp; omega), st0⟩
    · have HR := Lib.hid (show ringOk ⟨8, p, n⟩ = false by simp [ringOk, g0])
      replace g0 : isPrime p = false := by simpa using g0
      clear hpb
      go_enter Tryd.func26, Tryd.ntmps26
      go_wp2_with (first | (go_at_call 38; refine (sIsPrime_c _ _).mono ?_; rintro e w' ⟨rfl, rfl⟩) | (go_at_call 28; first | (refine (l01In_yes _ _ _ _ (by omega) (by omega)).mono ?_; rintro e w' ⟨rfl, rfl⟩) | (refine (l01In_no _ _ _ _ (by omega)).mono ?_; rintro e w' ⟨rfl, rfl⟩)))
      go_ret
      first | exact ⟨ret_bool HR.out.symm, st0⟩ | exact ⟨ret_bool (by rw [HR.out]; simp; omega), st0⟩
  have t8 : (k == 8) = false := by simpa using h8
  have HR := Lib.hid (show ringOk ⟨k, p, n⟩ = false by simp [ringOk, h1, h2, h3, h4, h5, h6, h7, h8])
  clear h1 h2 h3 h4 h5 h6 h7 h8
  go_enter Tryd.func26, Tryd.ntmps26
  go_wp2_with fail
  go_ret
  exact ⟨ret_bool HR.out.symm, st0⟩

end Go.Proofs.YtodlbhjnmdhjiaaDoor

/-
  Contracts: elements and tensors that are right, in the program and in the reference. No condition.
-/
namespace Go.Proofs.YtodlbhjnmdhjiaaDoor
open Go.RowKit Plain

section
variable {W : World} {k p n : Int} {A : Option Addr} {m c : Nat} {xs : List Int}

set_option maxHeartbeats 800000 in
theorem inRing_c (hr : ringOk ⟨k, p, n⟩ = true) (hx : SlOk W A m c xs) :
    Calls Tryd.prog 34 #[.agg #[.int .i64 k, .int .i64 p, .int .i64 n], .slice A m c] W (RetV W (.bool (fitsB ⟨k, p, n⟩ xs))) := by
  have st0 := Step.alloc W (.cells #[.int .i64 k, .int .i64 p, .int .i64 n] 29)
  have hlx := Lib.hid hx.at_.len
  have hmn := hx.len
  obtain ⟨tp, htp⟩ : ∃ tp, tp = top ⟨k, p, n⟩ := ⟨_, rfl⟩
  have HTP := Lib.hid htp
  obtain ⟨b1, b2⟩ := top_bd hr
  rw [← htp] at b1 b2
  clear htp
  go_enter Tryd.func34, Tryd.ntmps34
  go_wp2_with fail
  refine (rawTop_c k p n _ hr).mono ?_
  rintro e w1 ⟨rfl, st1⟩
  rw [← HTP.out]
  have hx1 := ((hx.step st0).step st1).at_
  clear hx hr
  go_wp2_with fail
  go_loop [12] (fun i => ∃ j : Nat, j ≤ m ∧ i = .int .i64 j ∧ ∀ q, q < j → 0 ≤ xs.getD q 0 ∧ xs.getD q 0 ≤ tp) (fun i => m - (intOf i).toNat)
  case atStart => exact ⟨0, Nat.zero_le _, rfl, fun q hq => absurd hq (by omega)⟩
  case round =>
    obtain ⟨j, hj, rfl, hq⟩ := hrel
    have HQ := Lib.hid hq
    clear hq
    by_cases hlt : j < m
    · obtain ⟨b, off, rfl, hb, hc⟩ := hx1.at_ (by omega)
      have hck := hc j hlt
      have hbad := Lib.hid (fun h => @fitsB_no ⟨k, p, n⟩ xs j (by rw [hlx.out]; exact hlt) h)
      rw [← HTP.out] at hbad
      have hok : ∀ z, z = xs.getD j 0 → (0 ≤ z ∧ z ≤ tp) → ∀ q, q < j + 1 → 0 ≤ xs.getD q 0 ∧ xs.getD q 0 ≤ tp := by
        intro z hz hzz q hq
        rcases Nat.lt_or_ge q j with h1 | h1
        · exact HQ.out q h1
        · obtain rfl : q = j := by omega
          rw [← hz]; exact hzz
      have HOK := Lib.hid hok
      clear hok
      generalize hz : xs.getD j 0 = z at hck hbad HOK
      have hji : (j : Int) < (m : Int) := by omega
      clear hc hz hx1
      by_cases hg : 0 ≤ z ∧ z ≤ tp
      · obtain ⟨g1, g2⟩ := hg
        go_wp2
        go_round
        case rel => exact ⟨j + 1, by omega, by go_num, HOK.out z rfl ⟨g1, g2⟩⟩
        case measure => simp [intOf]; omega
      · have hr := Lib.hid (hbad.out hg)
        by_cases g1 : z < 0
        · clear hg
          go_wp2
          go_ret
          exact ⟨ret_bool hr.out.symm, st0.trans st1⟩
        · have g2 : tp < z := by omega
          clear hg
          go_wp2
          go_ret
          exact ⟨ret_bool hr.out.symm, st0.trans st1⟩
    · go_wp2
      go_ret
      obtain rfl : j = m := by omega
      have hq := HQ.out
      rw [HTP.out] at hq
      exact ⟨ret_bool (fitsB_yes (by rw [hlx.out]; exact hq)).symm, st0.trans st1⟩

set_option maxHeartbeats 800000 in
theorem l02Elem_c (hr : ringOk ⟨k, p, n⟩ = true) (hx : SlOk W A m c xs) :
    Calls Tryd.prog 39 #[.agg #[.int .i64 k, .int .i64 p, .int .i64 n], .slice A m c] W (RetV W (.bool (decide ((xs.length : Int) = width ⟨k, p, n⟩) && fitsB ⟨k, p, n⟩ xs))) := by
  have st0 := Step.alloc W (.cells #[.int .i64 k, .int .i64 p, .int .i64 n] 29)
  have hlx := Lib.hid hx.at_.len
  have hmn := hx.len
  obtain ⟨tp, htp⟩ : ∃ tp, tp = top ⟨k, p, n⟩ := ⟨_, rfl⟩
  have HTP := Lib.hid htp
  obtain ⟨b1, b2⟩ := top_bd hr
  rw [← htp] at b1 b2
  clear htp
  go_enter Tryd.func39, Tryd.ntmps39
  go_wp2_with fail
  go_loopw [9] (fun i wr => ∃ j : Nat, j ≤ m ∧ i = .int .i64 j ∧ Step (W.alloc (.cells #[.int .i64 k, .int .i64 p, .int .i64 n] 29)) wr ∧ ∀ q, q < j → 0 ≤ xs.getD q 0 ∧ xs.getD q 0 ≤ tp) (fun i _ => m - (intOf i).toNat)
  case atStart => exact ⟨0, Nat.zero_le _, rfl, Below.refl _ _, fun q hq => absurd hq (by omega)⟩
  case round =>
    obtain ⟨j, hj, rfl, st1, hq⟩ := hrel
    have HQ := Lib.hid hq
    have hx1 := ((hx.step st0).step st1).at_
    obtain ⟨hc1, _⟩ := bcell (Below.mono st1 (B' := W.heap.size + 1) (by simp))
    clear hq hx
    by_cases hlt : j < m
    · obtain ⟨b, off, rfl, hb, hc⟩ := hx1.at_ (by omega)
      have hck := hc j hlt
      have hbad := Lib.hid (fun h => @fitsB_no ⟨k, p, n⟩ xs j (by rw [hlx.out]; exact hlt) h)
      rw [← HTP.out] at hbad
      have hok : ∀ z, z = xs.getD j 0 → (0 ≤ z ∧ z ≤ tp) → ∀ q, q < j + 1 → 0 ≤ xs.getD q 0 ∧ xs.getD q 0 ≤ tp := by
        intro z hz hzz q hq
        rcases Nat.lt_or_ge q j with h1 | h1
        · exact HQ.out q h1
        · obtain rfl : q = j := by omega
          rw [← hz]; exact hzz
      have HOK := Lib.hid hok
      clear hok
      generalize hz : xs.getD j 0 = z at hck hbad HOK
      have hji : (j : Int) < (m : Int) := by omega
      have HC := Lib.hid hc1
      clear hc hz hx1
      have m0 : wr.cell? ⟨W.heap.size, 0, none⟩ = some (.int .i64 k) := by rw [hc1 _ _ (by omega)]; simp
      have m1 : wr.cell? ⟨W.heap.size, 1, none⟩ = some (.int .i64 p) := by rw [hc1 _ _ (by omega)]; simp
      have m2 : wr.cell? ⟨W.heap.size, 2, none⟩ = some (.int .i64 n) := by rw [hc1 _ _ (by omega)]; simp
      clear hc1 HC
      go_wp2_with fail
      refine (l02Top_c k p n _ hr).mono ?_
      rintro e w2 ⟨rfl, st2⟩
      rw [← HTP.out]
      by_cases hg : 0 ≤ z ∧ z ≤ tp
      · obtain ⟨g1, g2⟩ := hg
        go_wp2_with (go_at_call 28; refine (l01In_yes _ _ _ _ (by omega) (by omega)).mono ?_; rintro e w' ⟨rfl, rfl⟩)
        go_roundw
        case rel => exact ⟨j + 1, by omega, by go_num, st1.trans st2, HOK.out z rfl ⟨g1, g2⟩⟩
        case measure => simp [intOf]; omega
      · have hr := Lib.hid (hbad.out hg)
        have HG := Lib.hid hg
        clear hg
        go_wp2_with (go_at_call 28; refine (l01In_no _ _ _ _ HG.out).mono ?_; rintro e w' ⟨rfl, rfl⟩)
        go_ret
        exact ⟨ret_bool (by rw [hr.out]; simp), (st0.trans st1).trans st2⟩
    · obtain rfl : j = m := by omega
      have hq := HQ.out
      rw [HTP.out] at hq
      have hf := Lib.hid (fitsB_yes (r := ⟨k, p, n⟩) (by rw [hlx.out]; exact hq))
      clear hq hx1
      have m0 : wr.cell? ⟨W.heap.size, 0, none⟩ = some (.int .i64 k) := by rw [hc1 _ _ (by omega)]; simp
      have m1 : wr.cell? ⟨W.heap.size, 1, none⟩ = some (.int .i64 p) := by rw [hc1 _ _ (by omega)]; simp
      have m2 : wr.cell? ⟨W.heap.size, 2, none⟩ = some (.int .i64 n) := by rw [hc1 _ _ (by omega)]; simp
      clear hc1
      go_wp2_with fail
      refine (l02Width_c k p n _).mono ?_
      rintro e w2 ⟨rfl, st2⟩
      go_wp2_with fail
      go_ret
      exact ⟨ret_bool (by rw [hf.out, hlx.out, Bool.and_true]; rfl), (st0.trans st1).trans st2⟩

theorem elemOk_no1 {r : Rg} {xs : List Int} (h : ringOk r = false) : elemOk r xs = false := by simp [elemOk, h]
theorem elemOk_no2 {r : Rg} {xs : List Int} (h : ¬ (xs.length : Int) = width r) : elemOk r xs = false := by simp [elemOk, h]
theorem elemOk_yes {r : Rg} {xs : List Int} (h : ringOk r = true) (h2 : (xs.length : Int) = width r) : elemOk r xs = fitsB r xs := by simp [elemOk, h, h2]

set_option maxHeartbeats 800000 in
theorem sElemOk_c (hx : SlOk W A m c xs) :
    Calls Tryd.prog 30 #[.agg #[.int .i64 k, .int .i64 p, .int .i64 n], .slice A m c] W (RetV W (.bool (elemOk ⟨k, p, n⟩ xs))) := by
  have st0 := Step.alloc W (.cells #[.int .i64 k, .int .i64 p, .int .i64 n] 29)
  go_enter Tryd.func30, Tryd.ntmps30
  go_wp2_with fail
  refine (sRingOk_c k p n _).mono ?_
  rintro e w1 ⟨rfl, st1⟩
  obtain ⟨hc1, _⟩ := bcell (Below.mono st1 (B' := W.heap.size + 1) (by simp))
  rcases Bool.eq_false_or_eq_true (ringOk ⟨k, p, n⟩) with hr | hr
  · have HE := Lib.hid (show elemOk ⟨k, p, n⟩ xs = (decide ((xs.length : Int) = width ⟨k, p, n⟩) && fitsB ⟨k, p, n⟩ xs) by simp [elemOk, hr])
    have HR := Lib.hid hr
    rw [hr]
    clear hr
    go_wp2_with fail
    refine (l02Elem_c HR.out ((hx.step st0).step st1)).mono ?_
    rintro e w2 ⟨rfl, st2⟩
    generalize (decide ((xs.length : Int) = width ⟨k, p, n⟩) && fitsB ⟨k, p, n⟩ xs) = bb at *
    go_wp2_with fail
    go_ret
    exact ⟨ret_bool HE.out.symm, (st0.trans st1).trans st2⟩
  · have HE := Lib.hid (elemOk_no1 (xs := xs) hr)
    rw [hr]
    clear hr
    go_wp2_with fail
    go_ret
    exact ⟨ret_bool HE.out.symm, st0.trans st1⟩
end

end Go.Proofs.YtodlbhjnmdhjiaaDoor
