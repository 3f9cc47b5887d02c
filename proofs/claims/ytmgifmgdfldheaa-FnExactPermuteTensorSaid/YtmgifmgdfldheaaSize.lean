/-
  Contracts: the size of a tensor, in the program and in the reference; membership; places. No condition but bounds on lengths.
-/
import Derived.Test.YtmgifmgdfldheaaLawB
namespace Go.Proofs.Ytmgifmgdfldheaa
open Go.RowKit Plain

theorem hasInt_any (A : Option Addr) (n c : Nat) (xs : List Int) (x : Int) (B : Nat) (w : World) (h : IntsAt w B A n xs) (hm : n ≤ 1099511627776) :
    Calls Try.prog 52 #[.slice A n c, .int .i64 x] w fun e w' => e = .returned (.bool (has xs x)) ∧ w = w' := by
  have hlen := Lib.hid h.len
  go_enter Try.func52, Try.ntmps52
  go_wp2
  go_loop [9] (fun i => ∃ k : Nat, k ≤ n ∧ i = .int .i64 k ∧ x ∉ xs.take k) (fun i => n - (intOf i).toNat)
  case atStart => exact ⟨0, Nat.zero_le _, rfl, by simp⟩
  case round =>
    obtain ⟨k, hk, rfl, hno⟩ := hrel
    by_cases hlt : k < n
    · obtain ⟨b, off, rfl, hb, hc⟩ := h.at_ (by omega)
      have hck := hc k hlt
      have hms := Lib.hid (mem_take_succ xs k x (by rw [hlen.out]; exact hlt))
      have hmg := Lib.hid (mem_of_get xs k (by rw [hlen.out]; exact hlt))
      have hno' := Lib.hid hno
      obtain ⟨y, hy⟩ : ∃ y, y = xs.getD k 0 := ⟨_, rfl⟩
      rw [← hy] at hck hms hmg
      by_cases hxy : x = y
      · have ht : (x == y) = true := beq_iff_eq.2 hxy
        have HX := Lib.hid hxy
        clear hc h hno hy hxy
        go_wp2
        go_ret
        exact ⟨ret_bool (by have e := HX.out; have m := hmg.out; exact (has_true.2 (e ▸ m)).symm), rfl⟩
      · have ht : (x == y) = false := beq_eq_false_iff_ne.2 hxy
        have HX := Lib.hid hxy
        clear hc h hno hy hxy
        go_wp2
        go_round
        case rel => exact ⟨k + 1, by omega, by go_num, by rw [hms.out]; intro hh; rcases hh with hh | hh; exact hno'.out hh; exact HX.out hh⟩
        case measure => simp [intOf]; omega
    · have hno' := Lib.hid hno
      clear hno
      go_wp2
      go_ret
      refine ⟨ret_bool ?_, rfl⟩
      obtain rfl : k = n := by omega
      have e := hno'.out
      rw [List.take_of_length_le (by rw [hlen.out]; exact Nat.le_refl _)] at e
      exact (has_false.2 e).symm

theorem l05Find_any (A : Option Addr) (n c : Nat) (xs : List Int) (x : Int) (B : Nat) (w : World) (h : IntsAt w B A n xs) (hm : n ≤ 1099511627776) :
    Calls Try.prog 78 #[.slice A n c, .int .i64 x] w fun e w' => e = .returned (.int .i64 (place xs x)) ∧ w = w' := by
  have hlen := Lib.hid h.len
  go_enter Try.func78, Try.ntmps78
  go_wp2
  go_loop [9] (fun i => ∃ k : Nat, k ≤ n ∧ i = .int .i64 k ∧ x ∉ xs.take k) (fun i => n - (intOf i).toNat)
  case atStart => exact ⟨0, Nat.zero_le _, rfl, by simp⟩
  case round =>
    obtain ⟨k, hk, rfl, hno⟩ := hrel
    by_cases hlt : k < n
    · obtain ⟨b, off, rfl, hb, hc⟩ := h.at_ (by omega)
      have hck := hc k hlt
      have hms := Lib.hid (mem_take_succ xs k x (by rw [hlen.out]; exact hlt))
      have hno' := Lib.hid hno
      have hpl := Lib.hid (@place_yes xs k (by rw [hlen.out]; exact hlt))
      obtain ⟨y, hy⟩ : ∃ y, y = xs.getD k 0 := ⟨_, rfl⟩
      rw [← hy] at hck hms hpl
      by_cases hxy : x = y
      · have ht : (y == x) = true := beq_iff_eq.2 hxy.symm
        have HX := Lib.hid hxy
        clear hc h hno hy hxy
        go_wp2
        go_ret
        refine ⟨ret_int ?_, rfl⟩
        have e := HX.out
        have e2 := hno'.out
        subst e
        exact (hpl.out e2).symm
      · have ht : (y == x) = false := beq_eq_false_iff_ne.2 (Ne.symm hxy)
        have HX := Lib.hid hxy
        clear hc h hno hy hxy
        go_wp2
        go_round
        case rel => exact ⟨k + 1, by omega, by go_num, by rw [hms.out]; intro hh; rcases hh with hh | hh; exact hno'.out hh; exact HX.out hh⟩
        case measure => simp [intOf]; omega
    · have hno' := Lib.hid hno
      clear hno
      go_wp2
      go_ret
      refine ⟨ret_int ?_, rfl⟩
      obtain rfl : k = n := by omega
      have e := hno'.out
      rw [List.take_of_length_le (by rw [hlen.out]; exact Nat.le_refl _)] at e
      exact (place_no e).symm

theorem l01In_yes (x a b : Int) (w : World) (h1 : a ≤ x) (h2 : x ≤ b) : Calls Try.prog 53 #[.int .i64 x, .int .i64 a, .int .i64 b] w fun e w' => e = .returned (.bool true) ∧ w = w' := by
  go_enter Try.func53, Try.ntmps53
  go_wp2
  go_ret
  exact ⟨rfl, rfl⟩
theorem l01In_no (x a b : Int) (w : World) (h : ¬ (a ≤ x ∧ x ≤ b)) : Calls Try.prog 53 #[.int .i64 x, .int .i64 a, .int .i64 b] w fun e w' => e = .returned (.bool false) ∧ w = w' := by
  by_cases h1 : a ≤ x
  · have h2 : ¬ x ≤ b := fun h2 => h ⟨h1, h2⟩
    clear h
    go_enter Try.func53, Try.ntmps53
    go_wp2
    go_ret
    exact ⟨rfl, rfl⟩
  · clear h
    go_enter Try.func53, Try.ntmps53
    go_wp2
    go_ret
    exact ⟨rfl, rfl⟩

end Go.Proofs.Ytmgifmgdfldheaa
