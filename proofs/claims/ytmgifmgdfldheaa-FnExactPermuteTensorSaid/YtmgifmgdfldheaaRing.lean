/-
  Contracts: primes and rings, in the program and in the reference. No condition.
-/
import Derived.Test.YtmgifmgdfldheaaContr1
import Derived.Test.YtmgifmgdfldheaaPlain3
namespace Go.Proofs.Ytmgifmgdfldheaa
open Go.RowKit Plain

set_option maxHeartbeats 400000 in
theorem iIsPrime_c (n : Int) (W : World) : Calls Try.prog 95 #[.int .i64 n] W fun e w' => e = .returned (.bool (isPrime n)) ∧ W = w' := by
  by_cases h1 : n < 2
  · have hr := Lib.hid (isPrime_lo h1)
    go_enter Try.func95, Try.ntmps95
    go_wp2
    go_ret
    exact ⟨ret_bool hr.out.symm, rfl⟩
  by_cases h2 : 1000003 < n
  · have hr := Lib.hid (isPrime_hi h2)
    go_enter Try.func95, Try.ntmps95
    go_wp2
    go_ret
    exact ⟨ret_bool hr.out.symm, rfl⟩
  go_enter Try.func95, Try.ntmps95
  go_wp2
  go_loop [3] (fun i => ∃ k : Nat, 2 ≤ k ∧ k ≤ 1001 ∧ i = .int .i64 k ∧ ∀ d : Nat, 2 ≤ d → d < k → n % d ≠ 0) (fun i => 1001 - (intOf i).toNat)
  case atStart => exact ⟨2, by omega, by omega, rfl, fun d a b => absurd b (by omega)⟩
  case round =>
    obtain ⟨k, hk1, hk2, rfl, hdv⟩ := hrel
    have HD := Lib.hid hdv
    obtain ⟨q1, q2⟩ := sq_bd hk2
    clear hdv
    by_cases hlt : (k : Int) * k ≤ n
    · have hk3 := sq_le hlt (by omega)
      have hdef := Lib.hid (fun h => @isPrime_div n k hk1 hlt (by omega) h)
      by_cases hm : n % (k : Int) = 0
      · have hr := Lib.hid (hdef.out hm)
        have ht : (n % (k : Int) == 0) = true := beq_iff_eq.2 hm
        clear hm
        go_wp2
        go_ret
        exact ⟨ret_bool hr.out.symm, rfl⟩
      · have ht : (n % (k : Int) == 0) = false := beq_eq_false_iff_ne.2 hm
        have HM := Lib.hid hm
        clear hm
        go_wp2
        go_round
        case rel =>
          refine ⟨k + 1, by omega, by omega, by go_num, fun d a b => ?_⟩
          rcases Nat.lt_or_ge d k with h | h
          · exact HD.out d a h
          · obtain rfl : d = k := by omega
            exact HM.out
        case measure => simp [intOf]; omega
    · have hr := Lib.hid (isPrime_yes (by omega) (by omega) HD.out (by omega))
      go_wp2
      go_ret
      exact ⟨ret_bool hr.out.symm, rfl⟩

set_option maxHeartbeats 400000 in
theorem sIsPrime_c (n : Int) (W : World) : Calls Try.prog 94 #[.int .i64 n] W fun e w' => e = .returned (.bool (isPrime n)) ∧ W = w' := by
  go_enter Try.func94, Try.ntmps94
  go_wp2
  go_loop [3] (fun i => ∃ k : Nat, 2 ≤ k ∧ k ≤ 1001 ∧ i = .int .i64 k ∧ ∀ d : Nat, 2 ≤ d → d < k → n % d ≠ 0) (fun i => 1001 - (intOf i).toNat)
  case atStart => exact ⟨2, by omega, by omega, rfl, fun d a b => absurd b (by omega)⟩
  case round =>
    obtain ⟨k, hk1, hk2, rfl, hdv⟩ := hrel
    have HD := Lib.hid hdv
    obtain ⟨q1, q2⟩ := sq_bd hk2
    clear hdv
    by_cases hlt : (k : Int) * k ≤ n
    · by_cases hn : n ≤ 1000003
      · have hk3 := sq_le hlt (by omega)
        have hdef := Lib.hid (fun h => @isPrime_div n k hk1 hlt (by omega) h)
        by_cases hm : n % (k : Int) = 0
        · have hr := Lib.hid (hdef.out hm)
          have ht : (n % (k : Int) == 0) = true := beq_iff_eq.2 hm
          clear hm
          go_wp2
          go_ret
          exact ⟨ret_bool hr.out.symm, rfl⟩
        · have ht : (n % (k : Int) == 0) = false := beq_eq_false_iff_ne.2 hm
          have HM := Lib.hid hm
          clear hm
          go_wp2
          go_round
          case rel =>
            refine ⟨k + 1, by omega, by omega, by go_num, fun d a b => ?_⟩
            rcases Nat.lt_or_ge d k with h | h
            · exact HD.out d a h
            · obtain rfl : d = k := by omega
              exact HM.out
          case measure => simp [intOf]; omega
      · have hr := Lib.hid (@isPrime_hi n (by omega))
        go_wp2_with (go_at_call 53; refine (l01In_no _ _ _ _ (by omega)).mono ?_; rintro e w' ⟨rfl, rfl⟩)
        go_ret
        exact ⟨ret_bool hr.out.symm, rfl⟩
    · by_cases h2 : 2 ≤ n
      · by_cases hn : n ≤ 1000003
        · have hr := Lib.hid (isPrime_yes h2 hn HD.out (by omega))
          go_wp2_with (go_at_call 53; refine (l01In_yes _ _ _ _ (by omega) (by omega)).mono ?_; rintro e w' ⟨rfl, rfl⟩)
          go_ret
          exact ⟨ret_bool hr.out.symm, rfl⟩
        · have hr := Lib.hid (@isPrime_hi n (by omega))
          go_wp2_with (go_at_call 53; refine (l01In_no _ _ _ _ (by omega)).mono ?_; rintro e w' ⟨rfl, rfl⟩)
          go_ret
          exact ⟨ret_bool hr.out.symm, rfl⟩
      · have hr := Lib.hid (@isPrime_lo n (by omega))
        go_wp2_with (go_at_call 53; refine (l01In_no _ _ _ _ (by omega)).mono ?_; rintro e w' ⟨rfl, rfl⟩)
        go_ret
        exact ⟨ret_bool hr.out.symm, rfl⟩

/-- The value of a ring. -/
abbrev rv (r : Rg) : Value := .agg #[.int .i64 r.k, .int .i64 r.p, .int .i64 r.n]

set_option maxHeartbeats 800000 in
theorem rawWidth_c (k p n : Int) (W : World) : Calls Try.prog 66 #[.agg #[.int .i64 k, .int .i64 p, .int .i64 n]] W (RetV W (.int .i64 (width ⟨k, p, n⟩))) := by
  have st0 := Step.alloc W (.cells #[.int .i64 k, .int .i64 p, .int .i64 n] 45)
  by_cases h7 : k = 7
  · subst h7
    go_enter Try.func66, Try.ntmps66
    go_wp2
    go_ret
    exact ⟨rfl, st0⟩
  by_cases h8 : k = 8
  · subst h8
    go_enter Try.func66, Try.ntmps66
    go_wp2
    go_ret
    exact ⟨rfl, st0⟩
  have e : width ⟨k, p, n⟩ = 1 := by unfold width; rw [if_neg h7, if_neg h8]
  rw [e]
  have t7 : (k == 7) = false := by simpa using h7
  have t8 : (k == 8) = false := by simpa using h8
  clear e h7 h8
  go_enter Try.func66, Try.ntmps66
  go_wp2
  go_ret
  exact ⟨rfl, st0⟩

end Go.Proofs.Ytmgifmgdfldheaa
