/-
  Contracts: what rings are right, their widths and tops, in the program and in the reference. No condition.
-/
import Derived.Test.YtmgifmgdfldheaaRing
namespace Go.Proofs.Ytmgifmgdfldheaa
open Go.RowKit Plain

set_option maxHeartbeats 800000 in
theorem l02Width_c (k p n : Int) (W : World) : Calls Try.prog 63 #[.agg #[.int .i64 k, .int .i64 p, .int .i64 n]] W (RetV W (.int .i64 (width ⟨k, p, n⟩))) := by
  have st0 := Step.alloc W (.cells #[.int .i64 k, .int .i64 p, .int .i64 n] 45)
  by_cases h7 : k = 7
  · subst h7
    go_enter Try.func63, Try.ntmps63
    go_wp2
    go_ret
    exact ⟨rfl, st0⟩
  by_cases h8 : k = 8
  · subst h8
    go_enter Try.func63, Try.ntmps63
    go_wp2
    go_ret
    exact ⟨rfl, st0⟩
  have e : width ⟨k, p, n⟩ = 1 := by unfold width; rw [if_neg h7, if_neg h8]
  rw [e]
  have t7 : (k == 7) = false := by simpa using h7
  have t8 : (k == 8) = false := by simpa using h8
  clear e h7 h8
  go_enter Try.func63, Try.ntmps63
  go_wp2
  go_ret
  exact ⟨rfl, st0⟩

set_option maxHeartbeats 1600000 in
theorem rawTop_c (k p n : Int) (W : World) (h : ringOk ⟨k, p, n⟩ = true) : Calls Try.prog 96 #[.agg #[.int .i64 k, .int .i64 p, .int .i64 n]] W (RetV W (.int .i64 (top ⟨k, p, n⟩))) := by
  have st0 := Step.alloc W (.cells #[.int .i64 k, .int .i64 p, .int .i64 n] 45)
  rcases ringOk_cases h with ⟨rfl, h1, h2⟩ | ⟨rfl, h1, h2⟩ | ⟨rfl, h1, h2, h3⟩ | ⟨rfl, h1, h2, h3⟩ | ⟨rfl, h1, h2, h3⟩ | ⟨rfl, h1, h2, h3⟩ | ⟨rfl, h1, h2, h3⟩ | ⟨rfl, h1, h2, h3⟩
  · have e : top ⟨1, p, n⟩ = 1 := by simp [top]
    rw [e]
    clear e h h1 h2
    go_enter Try.func96, Try.ntmps96
    go_wp2
    go_ret
    exact ⟨rfl, st0⟩
  · have e : top ⟨2, p, n⟩ = p - 1 := by simp [top]
    rw [e]
    have hq := isPrime_bd h1
    obtain ⟨q1, q2⟩ : 2 ≤ p ∧ p ≤ 1000003 := hq
    clear e h h1 h2
    go_enter Try.func96, Try.ntmps96
    go_wp2
    go_ret
    exact ⟨rfl, st0⟩
  · have e : top ⟨3, p, n⟩ = p := by simp [top]
    rw [e]
    clear e h h1 h2 h3
    go_enter Try.func96, Try.ntmps96
    go_wp2
    go_ret
    exact ⟨rfl, st0⟩
  · have e : top ⟨4, p, n⟩ = p := by simp [top]
    rw [e]
    clear e h h1 h2 h3
    go_enter Try.func96, Try.ntmps96
    go_wp2
    go_ret
    exact ⟨rfl, st0⟩
  · have e : top ⟨5, p, n⟩ = p := by simp [top]
    rw [e]
    clear e h h1 h2 h3
    go_enter Try.func96, Try.ntmps96
    go_wp2
    go_ret
    exact ⟨rfl, st0⟩
  · have hb := pow_bd h2 h3
    obtain ⟨m, hm⟩ : ∃ m : Nat, n = (m : Int) := ⟨n.toNat, by have : (1 : Int) ≤ n := h2; omega⟩
    subst hm
    have hm1 : 1 ≤ m := by have : (1 : Int) ≤ (m : Int) := h2; omega
    have hm2 : m ≤ 20 := by have : (m : Int) ≤ 20 := h3; omega
    have e : top ⟨6, p, (m : Int)⟩ = 2 ^ m - 1 := by simp [top]
    rw [e]
    obtain ⟨q1, q2⟩ : 2 ≤ (2 : Int) ^ m ∧ (2 : Int) ^ m ≤ 1048576 := by simpa using hb
    clear e hb h h1 h2 h3
    go_enter Try.func96, Try.ntmps96
    go_wp2
    go_ret
    exact ⟨rfl, st0⟩
  · have e : top ⟨7, p, n⟩ = p - 1 := by simp [top]
    rw [e]
    have hq := isPrime_bd h1
    obtain ⟨q1, q2⟩ : 2 ≤ p ∧ p ≤ 1000003 := hq
    clear e h h1 h2 h3
    go_enter Try.func96, Try.ntmps96
    go_wp2
    go_ret
    exact ⟨rfl, st0⟩
  · have e : top ⟨8, p, n⟩ = p - 1 := by simp [top]
    rw [e]
    have hq := isPrime_bd h1
    obtain ⟨q1, q2⟩ : 2 ≤ p ∧ p ≤ 1000003 := hq
    clear e h h1 h2 h3
    go_enter Try.func96, Try.ntmps96
    go_wp2
    go_ret
    exact ⟨rfl, st0⟩

set_option maxHeartbeats 1600000 in
theorem l02Top_c (k p n : Int) (W : World) (h : ringOk ⟨k, p, n⟩ = true) : Calls Try.prog 64 #[.agg #[.int .i64 k, .int .i64 p, .int .i64 n]] W (RetV W (.int .i64 (top ⟨k, p, n⟩))) := by
  have st0 := Step.alloc W (.cells #[.int .i64 k, .int .i64 p, .int .i64 n] 45)
  rcases ringOk_cases h with ⟨rfl, h1, h2⟩ | ⟨rfl, h1, h2⟩ | ⟨rfl, h1, h2, h3⟩ | ⟨rfl, h1, h2, h3⟩ | ⟨rfl, h1, h2, h3⟩ | ⟨rfl, h1, h2, h3⟩ | ⟨rfl, h1, h2, h3⟩ | ⟨rfl, h1, h2, h3⟩
  · have e : top ⟨1, p, n⟩ = 1 := by simp [top]
    rw [e]
    clear e h h1 h2
    go_enter Try.func64, Try.ntmps64
    go_wp2
    go_ret
    exact ⟨rfl, st0⟩
  · have e : top ⟨2, p, n⟩ = p - 1 := by simp [top]
    rw [e]
    have hq := isPrime_bd h1
    obtain ⟨q1, q2⟩ : 2 ≤ p ∧ p ≤ 1000003 := hq
    clear e h h1 h2
    go_enter Try.func64, Try.ntmps64
    go_wp2
    go_ret
    exact ⟨rfl, st0⟩
  · have e : top ⟨3, p, n⟩ = p := by simp [top]
    rw [e]
    clear e h h1 h2 h3
    go_enter Try.func64, Try.ntmps64
    go_wp2
    go_ret
    exact ⟨rfl, st0⟩
  · have e : top ⟨4, p, n⟩ = p := by simp [top]
    rw [e]
    clear e h h1 h2 h3
    go_enter Try.func64, Try.ntmps64
    go_wp2
    go_ret
    exact ⟨rfl, st0⟩
  · have e : top ⟨5, p, n⟩ = p := by simp [top]
    rw [e]
    clear e h h1 h2 h3
    go_enter Try.func64, Try.ntmps64
    go_wp2
    go_ret
    exact ⟨rfl, st0⟩
  · have hb := pow_bd h2 h3
    obtain ⟨m, hm⟩ : ∃ m : Nat, n = (m : Int) := ⟨n.toNat, by have : (1 : Int) ≤ n := h2; omega⟩
    subst hm
    have hm1 : 1 ≤ m := by have : (1 : Int) ≤ (m : Int) := h2; omega
    have hm2 : m ≤ 20 := by have : (m : Int) ≤ 20 := h3; omega
    have e : top ⟨6, p, (m : Int)⟩ = 2 ^ m - 1 := by simp [top]
    rw [e]
    obtain ⟨q1, q2⟩ : 2 ≤ (2 : Int) ^ m ∧ (2 : Int) ^ m ≤ 1048576 := by simpa using hb
    clear e hb h h1 h2 h3
    go_enter Try.func64, Try.ntmps64
    go_wp2
    go_ret
    exact ⟨rfl, st0⟩
  · have e : top ⟨7, p, n⟩ = p - 1 := by simp [top]
    rw [e]
    have hq := isPrime_bd h1
    obtain ⟨q1, q2⟩ : 2 ≤ p ∧ p ≤ 1000003 := hq
    clear e h h1 h2 h3
    go_enter Try.func64, Try.ntmps64
    go_wp2
    go_ret
    exact ⟨rfl, st0⟩
  · have e : top ⟨8, p, n⟩ = p - 1 := by simp [top]
    rw [e]
    have hq := isPrime_bd h1
    obtain ⟨q1, q2⟩ : 2 ≤ p ∧ p ≤ 1000003 := hq
    clear e h h1 h2 h3
    go_enter Try.func64, Try.ntmps64
    go_wp2
    go_ret
    exact ⟨rfl, st0⟩

end Go.Proofs.Ytmgifmgdfldheaa
