/-
  Contracts: indices and offsets, in the program and in the reference. No condition but bounds on lengths.
-/
import Derived.Test.YtmgifmgdfldheaaContr1
import Derived.Test.YtmgifmgdfldheaaPlain2
namespace Go.Proofs.Ytmgifmgdfldheaa
open Go.RowKit Plain

section
variable {W : World} {A : Option Addr} {n c : Nat} {ds : List Int} {A' : Option Addr} {n' c' : Nat} {is : List Int}

set_option maxHeartbeats 400000 in
theorem indexOk_c (hd : SlOk W A n c ds) (hi : SlOk W A' n' c' is) :
    Calls Try.prog 55 #[.slice A n c, .slice A' n' c'] W fun e w' => e = .returned (.bool (idxB ds is)) ∧ W = w' := by
  have hld := Lib.hid hd.at_.len
  have hli := Lib.hid hi.at_.len
  have hdn := hd.len
  have hin := hi.len
  by_cases hne : n = n'
  case neg =>
    have hr := Lib.hid (@idxB_len ds is (by rw [hld.out, hli.out]; omega))
    have ht : ((n' : Int) != (n : Int)) = true := by rw [bne_iff_ne]; omega
    go_enter Try.func55, Try.ntmps55
    go_wp2
    go_ret
    exact ⟨ret_bool hr.out.symm, rfl⟩
  subst hne
  go_enter Try.func55, Try.ntmps55
  go_wp2
  go_loop [14] (fun i => ∃ k : Nat, k ≤ n ∧ i = .int .i64 k ∧ ∀ j, j < k → idxAt ds is j) (fun i => n - (intOf i).toNat)
  case atStart => exact ⟨0, Nat.zero_le _, rfl, fun j hj => absurd hj (by omega)⟩
  case round =>
    obtain ⟨k, hk, rfl, hax⟩ := hrel
    have HAX := Lib.hid hax
    clear hax
    by_cases hlt : k < n
    · obtain ⟨b, off, rfl, hb, hc⟩ := hd.at_.at_ (by omega)
      obtain ⟨b', off', rfl, hb', hc'⟩ := hi.at_.at_ (by omega)
      have hck := hc k hlt
      have hck' := hc' k hlt
      have hbad := Lib.hid (fun h => @idxB_at ds is k (by rw [hld.out]; exact hlt) h)
      have hdef := Lib.hid (show idxAt ds is k ↔ 0 ≤ is.getD k 0 ∧ is.getD k 0 < ds.getD k 0 from Iff.rfl)
      generalize hx : is.getD k 0 = x at hck' hdef
      generalize hy : ds.getD k 0 = y at hck hdef
      have hki : (k : Int) < (n : Int) := by omega
      clear hx hy hc hc' hd hi
      by_cases hg : 0 ≤ x ∧ x < y
      · obtain ⟨g1, g2⟩ := hg
        go_wp2
        go_round
        case rel =>
          refine ⟨k + 1, by omega, by go_num, fun j hj => ?_⟩
          rcases Nat.lt_or_ge j k with h1 | h1
          · exact HAX.out j h1
          · obtain rfl : j = k := by omega
            exact hdef.out.2 ⟨g1, g2⟩
        case measure => simp [intOf]; omega
      · have hb' := Lib.hid (hbad.out (fun hh => hg (hdef.out.1 hh)))
        by_cases g1 : x < 0
        · clear hg
          go_wp2
          go_ret
          exact ⟨ret_bool hb'.out.symm, rfl⟩
        · have g2 : y ≤ x := by omega
          clear hg
          go_wp2
          go_ret
          exact ⟨ret_bool hb'.out.symm, rfl⟩
    · go_wp2
      go_ret
      obtain rfl : k = n := by omega
      exact ⟨ret_bool (idxB_yes (by rw [hld.out, hli.out]) (by rw [hld.out]; exact HAX.out)).symm, rfl⟩

theorem offsetIn_c (hd : SlOk W A n c ds) (hi : SlOk W A' n' c' is) (hok : idxOk ds is) (hdm : ∀ d ∈ ds, 1 ≤ d ∧ d ≤ 8) (hp : prodI ds ≤ 4096) :
    Calls Try.prog 56 #[.slice A n c, .slice A' n' c'] W fun e w' => e = .returned (.int .i64 (offs ds is)) ∧ W = w' := by
  have hld := Lib.hid hd.at_.len
  have hli := Lib.hid hi.at_.len
  have hdn := hd.len
  obtain rfl : n = n' := by rw [← hld.out, ← hli.out, hok.1]
  have HB := Lib.hid (fun k hk => offsTo_bd ds is (fun d hx => (hdm d hx).1) k hk (fun j hj => hok.2 j (by omega)))
  have HT := Lib.hid (fun k => Int.le_trans (prodI_take_le ds k (fun d hx => (hdm d hx).1)) hp)
  have HOK := Lib.hid hok
  have HDM := Lib.hid hdm
  clear hok hdm
  go_enter Try.func56, Try.ntmps56
  go_wp2
  go_loop [5, 10] (fun s i => ∃ k : Nat, k ≤ n ∧ i = .int .i64 k ∧ s = .int .i64 (offsTo ds is k)) (fun _ i => n - (intOf i).toNat)
  case atStart => exact ⟨0, Nat.zero_le _, rfl, rfl⟩
  case round =>
    obtain ⟨k, hk, rfl, rfl⟩ := hrel
    by_cases hlt : k < n
    · obtain ⟨b, off, rfl, hb, hc⟩ := hd.at_.at_ (by omega)
      obtain ⟨b', off', rfl, hb', hc'⟩ := hi.at_.at_ (by omega)
      have hck := hc k hlt
      have hck' := hc' k hlt
      obtain ⟨u1, u2⟩ := HB.out k (by rw [hld.out]; omega)
      have u3 := HT.out k
      have v := HB.out (k + 1) (by rw [hld.out]; omega)
      have hs := Lib.hid (offsTo_succ ds is k)
      rw [offsTo_succ] at v
      obtain ⟨v1, v2⟩ := v
      have v3 := HT.out (k + 1)
      obtain ⟨i1, i2⟩ := HOK.out.2 k (by rw [hld.out]; omega)
      obtain ⟨d1, d2⟩ := HDM.out _ (mem_of_get ds k (by rw [hld.out]; omega))
      generalize hx : is.getD k 0 = x at *
      generalize hy : ds.getD k 0 = y at *
      generalize ho : offsTo ds is k = o at *
      have w1 : 0 ≤ o * y := Int.mul_nonneg u1 (by omega)
      have w2 : o * y ≤ 4096 := by omega
      have hki : (k : Int) < (n : Int) := by omega
      clear hx hy ho hc hc' hd hi
      go_wp2
      go_round
      case rel => exact ⟨k + 1, by omega, by go_num, by rw [hs.out]⟩
      case measure => simp [intOf]; omega
    · go_wp2
      go_ret
      obtain rfl : k = n := by omega
      exact ⟨ret_int (by unfold offs; rw [hld.out]), rfl⟩

theorem l05Offset_c (hd : SlOk W A n c ds) (hi : SlOk W A' n' c' is) (hok : idxOk ds is) (hdm : ∀ d ∈ ds, 1 ≤ d ∧ d ≤ 8) (hp : prodI ds ≤ 4096) :
    Calls Try.prog 54 #[.slice A n c, .slice A' n' c'] W fun e w' => e = .returned (.int .i64 (offs ds is)) ∧ W = w' := by
  have hld := Lib.hid hd.at_.len
  have hli := Lib.hid hi.at_.len
  have hdn := hd.len
  obtain rfl : n = n' := by rw [← hld.out, ← hli.out, hok.1]
  have HB := Lib.hid (fun k hk => offsTo_bd ds is (fun d hx => (hdm d hx).1) k hk (fun j hj => hok.2 j (by omega)))
  have HT := Lib.hid (fun k => Int.le_trans (prodI_take_le ds k (fun d hx => (hdm d hx).1)) hp)
  have HOK := Lib.hid hok
  have HDM := Lib.hid hdm
  clear hok hdm
  go_enter Try.func54, Try.ntmps54
  go_wp2
  go_loop [5, 10] (fun s i => ∃ k : Nat, k ≤ n ∧ i = .int .i64 k ∧ s = .int .i64 (offsTo ds is k)) (fun _ i => n - (intOf i).toNat)
  case atStart => exact ⟨0, Nat.zero_le _, rfl, rfl⟩
  case round =>
    obtain ⟨k, hk, rfl, rfl⟩ := hrel
    by_cases hlt : k < n
    · obtain ⟨b, off, rfl, hb, hc⟩ := hd.at_.at_ (by omega)
      obtain ⟨b', off', rfl, hb', hc'⟩ := hi.at_.at_ (by omega)
      have hck := hc k hlt
      have hck' := hc' k hlt
      obtain ⟨u1, u2⟩ := HB.out k (by rw [hld.out]; omega)
      have u3 := HT.out k
      have v := HB.out (k + 1) (by rw [hld.out]; omega)
      have hs := Lib.hid (offsTo_succ ds is k)
      rw [offsTo_succ] at v
      obtain ⟨v1, v2⟩ := v
      have v3 := HT.out (k + 1)
      obtain ⟨i1, i2⟩ := HOK.out.2 k (by rw [hld.out]; omega)
      obtain ⟨d1, d2⟩ := HDM.out _ (mem_of_get ds k (by rw [hld.out]; omega))
      generalize hx : is.getD k 0 = x at *
      generalize hy : ds.getD k 0 = y at *
      generalize ho : offsTo ds is k = o at *
      have w1 : 0 ≤ o * y := Int.mul_nonneg u1 (by omega)
      have w2 : o * y ≤ 4096 := by omega
      have hki : (k : Int) < (n : Int) := by omega
      clear hx hy ho hc hc' hd hi
      go_wp2
      go_round
      case rel => exact ⟨k + 1, by omega, by go_num, by rw [hs.out]⟩
      case measure => simp [intOf]; omega
    · go_wp2
      go_ret
      obtain rfl : k = n := by omega
      exact ⟨ret_int (by unfold offs; rw [hld.out]), rfl⟩
end

end Go.Proofs.Ytmgifmgdfldheaa
