/-
  Contracts: the reference's l05Axes, l05Product, TensorSize. No condition but bounds on lengths.
-/
import Derived.Test.YtmgifmgdfldheaaSize
namespace Go.Proofs.Ytmgifmgdfldheaa
open Go.RowKit Plain

def axB (ls ds : List Int) : Bool := decide (axOk ls ds)
theorem axB_no1 {ls ds : List Int} (h : 12 < ls.length) : axB ls ds = false := by unfold axB; rw [decide_eq_false_iff_not]; intro h1; have := h1.1; omega
theorem axB_no2 {ls ds : List Int} (h : ls.length ≠ ds.length) : axB ls ds = false := by unfold axB; rw [decide_eq_false_iff_not]; intro h1; exact h h1.2.1
theorem axB_no3 {ls ds : List Int} (k : Nat) (hk : k < ls.length) (h : ¬ axAt ls ds k) : axB ls ds = false := by unfold axB; rw [decide_eq_false_iff_not]; intro h1; exact h (h1.2.2 k hk)
theorem axB_yes {ls ds : List Int} (h0 : ls.length ≤ 12) (h1 : ls.length = ds.length) (h2 : ∀ k, k < ls.length → axAt ls ds k) : axB ls ds = true := by unfold axB; rw [decide_eq_true_iff]; exact ⟨h0, h1, h2⟩

set_option maxHeartbeats 800000 in
theorem l05Axes_any (A0 : Option Addr) (n0 c0 : Nat) (A1 : Option Addr) (n1 c1 : Nat) (ls ds : List Int) (B : Nat) (w : World) (hl : IntsAt w B A0 n0 ls) (hd : IntsAt w B A1 n1 ds)
    (k0 : n0 ≤ 1099511627776) (k1 : n1 ≤ 1099511627776) (q0 : n0 ≤ c0) :
    Calls Try.prog 50 #[.slice A0 n0 c0, .slice A1 n1 c1] w fun e w' => e = .returned (.bool (axB ls ds)) ∧ w = w' := by
  have hll := Lib.hid hl.len
  have hdl := Lib.hid hd.len
  by_cases hbig : 12 < n0
  · have hr := Lib.hid (@axB_no1 ls ds (by rw [hll.out]; exact hbig))
    go_enter Try.func50, Try.ntmps50
    go_wp2
    go_ret
    exact ⟨ret_bool hr.out.symm, rfl⟩
  by_cases hne : n0 = n1
  case neg =>
    have hr := Lib.hid (@axB_no2 ls ds (by rw [hll.out, hdl.out]; exact hne))
    have ht : ((n0 : Int) != (n1 : Int)) = true := by rw [bne_iff_ne]; omega
    go_enter Try.func50, Try.ntmps50
    go_wp2
    go_ret
    exact ⟨ret_bool hr.out.symm, rfl⟩
  subst hne
  go_enter Try.func50, Try.ntmps50
  go_wp2
  go_loop [19] (fun i => ∃ k : Nat, k ≤ n0 ∧ i = .int .i64 k ∧ ∀ j, j < k → axAt ls ds j) (fun i => n0 - (intOf i).toNat)
  case atStart => exact ⟨0, Nat.zero_le _, rfl, fun j hj => absurd hj (by omega)⟩
  case round =>
    obtain ⟨k, hk, rfl, hax⟩ := hrel
    have HAX := Lib.hid hax
    clear hax
    by_cases hlt : k < n0
    · obtain ⟨b, off, rfl, hb, hc⟩ := hl.at_ (by omega)
      obtain ⟨b', off', rfl, hb', hc'⟩ := hd.at_ (by omega)
      have hck := hc k hlt
      have hck' := hc' k hlt
      have htk := hl.take (k := k) (by omega)
      have hbad := Lib.hid (fun h => @axB_no3 ls ds k (by rw [hll.out]; exact hlt) h)
      have hdef := Lib.hid (show axAt ls ds k ↔ 0 ≤ ls.getD k 0 ∧ ls.getD k 0 ≤ 99 ∧ 1 ≤ ds.getD k 0 ∧ ds.getD k 0 ≤ 8 ∧ ls.getD k 0 ∉ ls.take k from Iff.rfl)
      generalize hx : ls.getD k 0 = x at hck hbad hdef
      generalize hy : ds.getD k 0 = y at hck' hdef
      clear hx hy hc hc'
      have hi : (k : Int) < (n0 : Int) := by omega
      have hkc : k ≤ c0 := by omega
      have hpl := Lib.hid (@place_neg (ls.take k) x)
      by_cases hgx : 0 ≤ x ∧ x ≤ 99
      · obtain ⟨g1, g2⟩ := hgx
        by_cases hgy : 1 ≤ y ∧ y ≤ 8
        · obtain ⟨g3, g4⟩ := hgy
          by_cases hgp : place (ls.take k) x < 0
          · go_wp2_with (first
              | (go_at_call 53; refine (l01In_yes _ _ _ _ (by omega) (by omega)).mono ?_; rintro e w' ⟨rfl, rfl⟩)
              | (go_at_call 78; refine (l05Find_any _ _ _ (ls.take k) x B _ htk (by omega)).mono ?_; rintro e w' ⟨rfl, rfl⟩))
            go_round
            case rel =>
              refine ⟨k + 1, by omega, by go_num, fun j hj => ?_⟩
              rcases Nat.lt_or_ge j k with h1 | h1
              · exact HAX.out j h1
              · obtain rfl : j = k := by omega
                exact hdef.out.2 ⟨g1, g2, g3, g4, hpl.out.1 hgp⟩
            case measure => simp [intOf]; omega
          · have hb' := Lib.hid (hbad.out (fun hh => hgp (hpl.out.2 (hdef.out.1 hh).2.2.2.2)))
            clear hdef
            go_wp2_with (first
              | (go_at_call 53; refine (l01In_yes _ _ _ _ (by omega) (by omega)).mono ?_; rintro e w' ⟨rfl, rfl⟩)
              | (go_at_call 78; refine (l05Find_any _ _ _ (ls.take k) x B _ htk (by omega)).mono ?_; rintro e w' ⟨rfl, rfl⟩))
            go_ret
            exact ⟨ret_bool hb'.out.symm, rfl⟩
        · have hb' := Lib.hid (hbad.out (fun hh => hgy ⟨(hdef.out.1 hh).2.2.1, (hdef.out.1 hh).2.2.2.1⟩))
          have HG := Lib.hid hgy
          clear hgy
          go_wp2_with (first
              | (go_at_call 53; first | (refine (l01In_yes _ _ _ _ (by omega) (by omega)).mono ?_; rintro e w' ⟨rfl, rfl⟩) | (refine (l01In_no _ _ _ _ HG.out).mono ?_; rintro e w' ⟨rfl, rfl⟩)))
          go_ret
          exact ⟨ret_bool hb'.out.symm, rfl⟩
      · have hb' := Lib.hid (hbad.out (fun hh => hgx ⟨(hdef.out.1 hh).1, (hdef.out.1 hh).2.1⟩))
        have HG := Lib.hid hgx
        clear hgx
        go_wp2_with (go_at_call 53; refine (l01In_no _ _ _ _ HG.out).mono ?_; rintro e w' ⟨rfl, rfl⟩)
        go_ret
        exact ⟨ret_bool hb'.out.symm, rfl⟩
    · go_wp2
      go_ret
      obtain rfl : k = n0 := by omega
      exact ⟨ret_bool (axB_yes (by rw [hll.out]; omega) (by rw [hll.out, hdl.out]) (by rw [hll.out]; exact HAX.out)).symm, rfl⟩

theorem l05Product_any (A : Option Addr) (n c : Nat) (ds : List Int) (lim : Int) (B : Nat) (w : World) (h : IntsAt w B A n ds) (hn : n ≤ 1099511627776) (hds : ∀ d ∈ ds, 1 ≤ d ∧ d ≤ 8) (h1 : 0 ≤ lim) (h2 : lim ≤ 1099511627776) :
    Calls Try.prog 51 #[.slice A n c, .int .i64 lim] w fun e w' => e = .returned (.int .i64 (min (prodI ds) (lim + 1))) ∧ w = w' := by
  have hlen := Lib.hid h.len
  have HDS := Lib.hid hds
  clear hds
  go_enter Try.func51, Try.ntmps51
  go_wp2
  go_loop [5, 10] (fun p i => ∃ k : Nat, k ≤ n ∧ i = .int .i64 k ∧ p = .int .i64 (min (prodI (ds.take k)) (lim + 1))) (fun _ i => n - (intOf i).toNat)
  case atStart => exact ⟨0, Nat.zero_le _, rfl, by simp [prodI]; omega⟩
  case round =>
    obtain ⟨k, hk, rfl, rfl⟩ := hrel
    have hp1 := prodI_pos (ds.take k) (fun d hd => (HDS.out d (List.mem_of_mem_take hd)).1)
    by_cases hlt : k < n
    · obtain ⟨b, off, rfl, hb, hc⟩ := h.at_ (by omega)
      have hck := hc k hlt
      have hsuc := Lib.hid (prodI_take_succ ds k (by rw [hlen.out]; exact hlt))
      have hyb := HDS.out _ (mem_of_get ds k (by rw [hlen.out]; exact hlt))
      generalize hy : ds.getD k 0 = y at hck hsuc hyb
      generalize hp : prodI (ds.take k) = p at *
      obtain ⟨g1, g2⟩ := hyb
      have hmm := Lib.hid (min_mul p y (lim + 1) (by omega) (by omega))
      obtain ⟨q, hq⟩ : ∃ q, q = min p (lim + 1) := ⟨_, rfl⟩
      rw [← hq] at hmm ⊢
      have hq1 : 1 ≤ q := by omega
      have hq2 : q ≤ lim + 1 := by omega
      have hqy1 : 1 ≤ q * y := by have := Int.mul_pos (a := q) (b := y) (by omega) (by omega); omega
      have hqy2 : q * y ≤ (lim + 1) * 8 := Int.mul_le_mul hq2 g2 (by omega) (by omega)
      have hi : (k : Int) < (n : Int) := by omega
      clear hc hy hp hq
      go_wp2
      refine ⟨⟨k + 1, by omega, by go_num, ?_⟩, by simp [intOf]; omega⟩
      rw [hsuc.out, ← hmm.out]
      congr 1
      split <;> omega
    · go_wp2
      go_ret
      obtain rfl : k = n := by omega
      have e : ds.take k = ds := List.take_of_length_le (by rw [hlen.out]; exact Nat.le_refl _)
      exact ⟨ret_int (by rw [e]), rfl⟩

theorem sTensorSize (A0 : Option Addr) (n0 c0 : Nat) (A1 : Option Addr) (n1 c1 : Nat) (A2 : Option Addr) (n2 c2 : Nat) (ls ds : List Int) (w : World) (hl : IntsAt w w.heap.size A0 n0 ls) (hd : IntsAt w w.heap.size A1 n1 ds)
    (k0 : n0 ≤ 1099511627776) (k1 : n1 ≤ 1099511627776) (q0 : n0 ≤ c0) :
    Calls Try.prog 16 #[.agg #[.slice A0 n0 c0, .slice A1 n1 c1, .slice A2 n2 c2]] w (RetV w (.int .i64 (tsize ls ds))) := by
  have hbel : Below w.heap.size w (w.alloc (.cells #[.slice A0 n0 c0, .slice A1 n1 c1, .slice A2 n2 c2] 27)) := (Below.refl _ _).alloc (Nat.le_refl _) _
  have hl' := hl.below hbel (Nat.le_refl _)
  have hd' := hd.below hbel (Nat.le_refl _)
  by_cases hax : axOk ls ds
  · have hb : axB ls ds = true := decide_eq_true hax
    by_cases hp : prodI ds ≤ 4096
    · have hr := Lib.hid (tsize_good hax.1 hax.2.1 hax.2.2 hp)
      have hm := Lib.hid (show min (prodI ds) (4096 + 1) = prodI ds by omega)
      have HAX := Lib.hid hax
      clear hax
      go_enter Try.func16, Try.ntmps16
      go_wp2_with (first
        | (go_at_call 50; refine (l05Axes_any _ _ _ _ _ _ ls ds w.heap.size _ hl' hd' k0 k1 q0).mono ?_; rintro e w' ⟨rfl, rfl⟩)
        | (go_at_call 51; refine (l05Product_any _ _ _ ds 4096 w.heap.size _ hd' k1 HAX.out.dim (by omega) (by omega)).mono ?_; rintro e w' ⟨rfl, rfl⟩; rw [hm.out]))
      go_ret
      exact ⟨ret_int hr.out.symm, hbel⟩
    · have hr := Lib.hid (show tsize ls ds = -1 by unfold tsize; rw [if_neg (fun h => hp h.2)])
      have hm := Lib.hid (show min (prodI ds) (4096 + 1) = 4097 by omega)
      have HAX := Lib.hid hax
      clear hax hp
      go_enter Try.func16, Try.ntmps16
      go_wp2_with (first
        | (go_at_call 50; refine (l05Axes_any _ _ _ _ _ _ ls ds w.heap.size _ hl' hd' k0 k1 q0).mono ?_; rintro e w' ⟨rfl, rfl⟩)
        | (go_at_call 51; refine (l05Product_any _ _ _ ds 4096 w.heap.size _ hd' k1 HAX.out.dim (by omega) (by omega)).mono ?_; rintro e w' ⟨rfl, rfl⟩; rw [hm.out]))
      go_ret
      exact ⟨ret_int hr.out.symm, hbel⟩
  · have hb : axB ls ds = false := decide_eq_false hax
    have hr := Lib.hid (show tsize ls ds = -1 by unfold tsize; rw [if_neg (fun h => hax h.1)])
    clear hax
    go_enter Try.func16, Try.ntmps16
    go_wp2_with (go_at_call 50; refine (l05Axes_any _ _ _ _ _ _ ls ds w.heap.size _ hl' hd' k0 k1 q0).mono ?_; rintro e w' ⟨rfl, rfl⟩)
    go_ret
    exact ⟨ret_int hr.out.symm, hbel⟩

end Go.Proofs.Ytmgifmgdfldheaa
