/-
  Contracts: TensorSize, in the program and in the reference. No condition but bounds on lengths.
-/
import Derived.Test.YtmgifmgdfldheaaSize
namespace Go.Proofs.Ytmgifmgdfldheaa
open Go.RowKit Plain

/-- The value of a tensor. -/
abbrev tv (A0 : Option Addr) (n0 c0 : Nat) (A1 : Option Addr) (n1 c1 : Nat) (A2 : Option Addr) (n2 c2 : Nat) : Value := .agg #[.slice A0 n0 c0, .slice A1 n1 c1, .slice A2 n2 c2]

set_option maxHeartbeats 800000 in
theorem iTensorSize (A0 : Option Addr) (n0 c0 : Nat) (A1 : Option Addr) (n1 c1 : Nat) (A2 : Option Addr) (n2 c2 : Nat) (ls ds : List Int) (w : World) (hl : IntsAt w w.heap.size A0 n0 ls) (hd : IntsAt w w.heap.size A1 n1 ds)
    (k0 : n0 ≤ 1099511627776) (k1 : n1 ≤ 1099511627776) (q0 : n0 ≤ c0) :
    Calls Try.prog 18 #[tv A0 n0 c0 A1 n1 c1 A2 n2 c2] w (RetV w (.int .i64 (tsize ls ds))) := by
  have hll := Lib.hid hl.len
  have hdl := Lib.hid hd.len
  by_cases hbig : 12 < n0
  · have hr := Lib.hid (@tsize_len1 ls ds (by rw [hll.out]; exact hbig))
    go_enter Try.func18, Try.ntmps18
    go_wp2
    go_ret
    exact ⟨ret_int hr.out.symm, (Below.refl _ _).alloc (Nat.le_refl _) _⟩
  by_cases hne : n0 = n1
  case neg =>
    have hr := Lib.hid (@tsize_len2 ls ds (by rw [hll.out, hdl.out]; exact hne))
    have ht : ((n0 : Int) != (n1 : Int)) = true := by rw [bne_iff_ne]; omega
    go_enter Try.func18, Try.ntmps18
    go_wp2
    go_ret
    exact ⟨ret_int hr.out.symm, (Below.refl _ _).alloc (Nat.le_refl _) _⟩
  subst hne
  go_enter Try.func18, Try.ntmps18
  go_wp2
  go_loop [3, 23] (fun s i => ∃ k : Nat, k ≤ n0 ∧ i = .int .i64 k ∧ s = .int .i64 (prodI (ds.take k)) ∧ 1 ≤ prodI (ds.take k) ∧ prodI (ds.take k) ≤ 4096 ∧ ∀ j, j < k → axAt ls ds j) (fun _ i => n0 - (intOf i).toNat)
  case atStart => exact ⟨0, Nat.zero_le _, rfl, rfl, by simp [prodI], by simp [prodI], fun j hj => absurd hj (by omega)⟩
  case round =>
    obtain ⟨k, hk, rfl, rfl, hp1, hp2, hax⟩ := hrel
    have HAX := Lib.hid hax
    clear hax
    by_cases hlt : k < n0
    · have hbel : Below w.heap.size w (w.alloc (.cells #[.slice A0 n0 c0, .slice A1 n0 c1, .slice A2 n2 c2] 27)) := (Below.refl _ _).alloc (Nat.le_refl _) _
      obtain ⟨b, off, rfl, hb, hc⟩ := (hl.below hbel (Nat.le_refl _)).at_ (by omega)
      obtain ⟨b', off', rfl, hb', hc'⟩ := (hd.below hbel (Nat.le_refl _)).at_ (by omega)
      have hck := hc k hlt
      have hck' := hc' k hlt
      have htk := (hl.below hbel (Nat.le_refl _)).take (k := k) (by omega)
      have hbad := Lib.hid (fun h => @tsize_ax ls ds k (by rw [hll.out]; exact hlt) h)
      have hbig2 := Lib.hid (fun h => @tsize_big ls ds k (by rw [hll.out]; exact hlt) (by rw [hll.out, hdl.out]) h)
      have hsuc := Lib.hid (prodI_take_succ ds k (by rw [hdl.out]; exact hlt))
      have hdef := Lib.hid (axAt_has ls ds k)
      generalize hx : ls.getD k 0 = x at hck hbad hdef
      generalize hy : ds.getD k 0 = y at hck' hbig2 hsuc hdef
      generalize hp : prodI (ds.take k) = p at *
      clear hx hy hp hc hc'
      have hi : (k : Int) < (n0 : Int) := by omega
      have hkc : k ≤ c0 := by omega
      by_cases hgx : 0 ≤ x ∧ x ≤ 99 ∧ has (ls.take k) x = false ∧ 1 ≤ y ∧ y ≤ 8
      · obtain ⟨g1, g2, g3, g4, g5⟩ := hgx
        have hq1 : 1 ≤ p * y := by have := Int.mul_pos (a := p) (b := y) (by omega) (by omega); omega
        have hq2 : p * y ≤ 32768 := by have := Int.mul_le_mul (a := p) (b := y) (c := 4096) (d := 8) hp2 g5 (by omega) (by omega); omega
        by_cases hq : 4096 < p * y
        · go_wp2_with (go_at_call 52; refine (hasInt_any _ _ _ (ls.take k) x w.heap.size _ htk (by omega)).mono ?_; rintro e w' ⟨rfl, rfl⟩)
          go_ret
          exact ⟨ret_int (hbig2.out hq).symm, hbel⟩
        · go_wp2_with (go_at_call 52; refine (hasInt_any _ _ _ (ls.take k) x w.heap.size _ htk (by omega)).mono ?_; rintro e w' ⟨rfl, rfl⟩)
          go_round
          case rel =>
            refine ⟨k + 1, by omega, by go_num, by rw [hsuc.out], by rw [hsuc.out]; exact hq1, by rw [hsuc.out]; omega, fun j hj => ?_⟩
            rcases Nat.lt_or_ge j k with h1 | h1
            · exact HAX.out j h1
            · obtain rfl : j = k := by omega
              exact hdef.out.2 ⟨g1, g2, g3, g4, g5⟩
          case measure => simp [intOf]; omega
      · have hb' := hbad.out (fun hh => hgx (hdef.out.1 hh))
        rw [hb']
        have HG := Lib.hid hgx
        clear hgx hdef hbig2 hbad hb' hsuc HAX
        go_wp2_with (go_at_call 52; refine (hasInt_any _ _ _ (ls.take k) x w.heap.size _ htk (by omega)).mono ?_; rintro e w' ⟨rfl, rfl⟩)
        all_goals first
          | (exfalso; have h1 : (0 ≤ x ∧ x ≤ 99) ∧ has (ls.take k) x = false := by assumption
             exact HG.out ⟨h1.1.1, h1.1.2, h1.2, by omega, by omega⟩)
          | (go_ret; exact ⟨rfl, hbel⟩)
    · go_wp2
      go_ret
      obtain rfl : k = n0 := by omega
      have e : ds.take k = ds := List.take_of_length_le (by rw [hdl.out]; exact Nat.le_refl _)
      rw [e] at hp1 hp2 ⊢
      exact ⟨ret_int (tsize_good (by rw [hll.out]; omega) (by rw [hll.out, hdl.out]) (by rw [hll.out]; exact HAX.out) hp2).symm, (Below.refl _ _).alloc (Nat.le_refl _) _⟩

end Go.Proofs.Ytmgifmgdfldheaa
