/-
  Contracts of the laws' own helpers on slices of ints: sizes, copies, comparison, marking. No condition but bounds on lengths.
-/
import Derived.Test.YtmgifmgdfldheaaBase
import Derived.Test.YtmgifmgdfldheaaPlain
namespace Go.Proofs.Ytmgifmgdfldheaa
open Go.RowKit

/-- What is left of a budget; -1 where it is used up. -/
def szI (left : Int) (n : Nat) : Int := if left - n < 0 then -1 else left - n
theorem szI_yes {left : Int} {n : Nat} (h : (n : Int) ≤ left) : szI left n = left - n := by unfold szI; rw [if_neg (by omega)]
theorem szI_no {left : Int} {n : Nat} (h : left < (n : Int)) : szI left n = -1 := by unfold szI; rw [if_pos (by omega)]

set_option maxHeartbeats 400000 in
theorem szIntS_any (A : Option Addr) (n c : Nat) (left : Int) (w : World) (h0 : 0 ≤ left) (h1 : left ≤ 1048576) (hn : n ≤ 9223372036854775807) :
    Calls Try.prog 49 #[.slice A n c, .int .i64 left] w fun e w' => e = .returned (.int .i64 (szI left n)) ∧ w = w' := by
  by_cases h : left - (n : Int) < 0
  · have hs := Lib.hid (szI_no (left := left) (n := n) (by omega))
    go_enter Try.func49, Try.ntmps49
    go_wp2
    go_ret
    exact ⟨by rw [hs.out]; rfl, rfl⟩
  · have hs := Lib.hid (szI_yes (left := left) (n := n) (by omega))
    go_enter Try.func49, Try.ntmps49
    go_wp2
    go_ret
    exact ⟨by rw [hs.out]; rfl, rfl⟩

set_option maxHeartbeats 400000 in
theorem toIntS_any (A : Option Addr) (n c : Nat) (xs : List Int) (w : World) (h : IntsAt w w.heap.size A n xs) (hn : n ≤ 1048576) :
    Calls Try.prog 21 #[.slice A n c] w (RetI w xs) := by
  have hlen := Lib.hid h.len
  have hmk := run_make_ints n n (Nat.le_refl _) (by omega)
  have hown := OwnI.zeros_ (w := w) (lo := w.heap.size) n (Nat.le_refl _) (by omega)
  have hb0 : Below w.heap.size w (w.alloc (.cells (zeros n) 3)) := (Below.refl _ _).alloc (Nat.le_refl _) _
  go_enter Try.func21, Try.ntmps21
  go_wp2_with fail
  generalize w.alloc (.cells (zeros n) 3) = w1 at *
  go_loopw [4] (fun i wr => ∃ k : Nat, k ≤ n ∧ i = .int .i64 k ∧ OwnI wr w.heap.size (w.heap.size + 1) (some ⟨w.heap.size, 0, none⟩) n n (xs.take k ++ List.replicate (n - k) 0) ∧ Below w.heap.size w wr) (fun i _ => n - (intOf i).toNat)
  case atStart => exact ⟨0, Nat.zero_le _, rfl, by simpa using hown, hb0⟩
  case round =>
    clear hmk hown hb0
    obtain ⟨k, hk, rfl, hown, hb⟩ := hrel
    by_cases hlt : k < n
    · obtain ⟨b, off, rfl, hbB, hc⟩ := (h.below hb (Nat.le_refl _)).at_ (by omega)
      have hck := hc k hlt
      have hcell := hown.cell hlt
      have hfr := hown.frozen k
      have hst := hown.set k (xs.getD k 0)
      have hb' := hb.setCell (p := ⟨w.heap.size, k, none⟩) (Nat.le_refl _) (.int .i64 (xs.getD k 0))
      obtain ⟨x, hx⟩ : ∃ x, x = xs.getD k 0 := ⟨_, rfl⟩
      rw [← hx] at hck hst hb'
      have HX := Lib.hid hx
      clear hc hown hb hx
      go_wp2
      refine ⟨⟨k + 1, by omega, by go_num, ?_, hb'⟩, by simp [intOf]; omega⟩
      have e := Plain.set_take_rep xs n k 0 hlen.out hlt
      rw [← HX.out] at e
      rw [← e]
      exact hst.1
    · go_wp2
      go_ret
      obtain rfl : k = n := by omega
      have e : xs.take k ++ List.replicate (k - k) 0 = xs := by rw [Nat.sub_self, List.replicate_zero, List.append_nil, List.take_of_length_le (by rw [hlen.out]; exact Nat.le_refl _)]
      rw [e] at hown
      obtain rfl := hlen.out
      exact ⟨_, _, rfl, hown.top, hb⟩

/-- Two slices that read the same compare equal. -/
theorem eqIntS_same (A : Option Addr) (n c : Nat) (A' : Option Addr) (n' c' : Nat) (xs : List Int) (w : World) (h : IntsAt w w.heap.size A n xs) (h' : IntsAt w w.heap.size A' n' xs) (hn : n ≤ 1099511627776) :
    Calls Try.prog 23 #[.slice A n c, .slice A' n' c'] w (RetV w (.bool true)) := by
  obtain rfl : n = n' := h.len.symm.trans h'.len
  go_enter Try.func23, Try.ntmps23
  go_wp2
  go_loopw [5] (fun i wr => ∃ k : Nat, k ≤ n ∧ i = .int .i64 k ∧ Below w.heap.size w wr) (fun i _ => n - (intOf i).toNat)
  case atStart => exact ⟨0, Nat.zero_le _, rfl, Below.refl _ _⟩
  case round =>
    obtain ⟨k, hk, rfl, hb⟩ := hrel
    by_cases hlt : k < n
    · obtain ⟨b, off, rfl, hbB, hc⟩ := (h.below hb (Nat.le_refl _)).at_ (by omega)
      obtain ⟨b', off', rfl, hbB', hc'⟩ := (h'.below hb (Nat.le_refl _)).at_ (by omega)
      have hck := hc k hlt
      have hck' := hc' k hlt
      have hi : (k : Int) < (n : Int) := by omega
      generalize xs.getD k 0 = x at hck hck'
      clear hc hc'
      go_wp2
      go_quiet (fail)
      go_wp2
      refine ⟨⟨k + 1, by omega, by go_num, below_drewN hb _⟩, by simp [intOf]; omega⟩
    · go_wp2
      go_ret
      exact ⟨rfl, hb⟩

/-- The numbers k, k+1, .. -/
def upto (k : Int) (n : Nat) : List Int := (List.range n).map fun (i : Nat) => k + (i : Int)
theorem upto_len (k : Int) (n : Nat) : (upto k n).length = n := by simp [upto]
theorem upto_get (k : Int) (n j : Nat) (h : j < n) : (upto k n).getD j 0 = k + (j : Int) := by simp [upto, h]

/-- A slice that was marked is found marked. -/
theorem heldIntS_same (A : Option Addr) (n c : Nat) (k0 : Int) (w : World) (h : IntsAt w w.heap.size A n (upto k0 n)) (hn : n ≤ 1099511627776) (h0 : 0 ≤ k0) (h1 : k0 ≤ 1099511627776) :
    Calls Try.prog 28 #[.slice A n c, .int .i64 k0] w (RetV w (.int .i64 (k0 + n))) := by
  go_enter Try.func28, Try.ntmps28
  go_wp2
  go_loopw [1, 5] (fun q i wr => ∃ k : Nat, k ≤ n ∧ i = .int .i64 k ∧ q = .int .i64 (k0 + k) ∧ Below w.heap.size w wr) (fun _ i _ => n - (intOf i).toNat)
  case atStart => exact ⟨0, Nat.zero_le _, rfl, by simp, Below.refl _ _⟩
  case round =>
    obtain ⟨k, hk, rfl, rfl, hb⟩ := hrel
    by_cases hlt : k < n
    · obtain ⟨b, off, rfl, hbB, hc⟩ := (h.below hb (Nat.le_refl _)).at_ (by omega)
      have hck := hc k hlt
      rw [upto_get _ _ _ hlt] at hck
      have hi : (k : Int) < (n : Int) := by omega
      clear hc
      go_wp2
      refine ⟨⟨k + 1, by omega, by go_num, by go_num, hb⟩, by simp [intOf]; omega⟩
    · go_wp2
      go_ret
      obtain rfl : k = n := by omega
      exact ⟨rfl, hb⟩

/-- Marking a slice that is owned: old memory but for its block is as it was. -/
theorem markIntS_any (A : Option Addr) (n c : Nat) (k0 : Int) (xs : List Int) (lo hi : Nat) (w : World) (h : OwnI w lo hi A n c xs) (hn : n ≤ 1099511627776) (h0 : 0 ≤ k0) (h1 : k0 ≤ 1099511627776) :
    Calls Try.prog 27 #[.slice A n c, .int .i64 k0] w fun e w' => e = .returned (.int .i64 (k0 + n)) ∧ OwnI w' lo hi A n c (upto k0 n) ∧ w.grownBy w' (blkOf A) := by
  have hlen := Lib.hid h.len
  go_enter Try.func27, Try.ntmps27
  go_wp2
  go_loopw [1, 5] (fun q i wr => ∃ k : Nat, k ≤ n ∧ i = .int .i64 k ∧ q = .int .i64 (k0 + k) ∧ OwnI wr lo hi A n c (upto k0 k ++ xs.drop k) ∧ w.grownBy wr (blkOf A)) (fun _ i _ => n - (intOf i).toNat)
  case atStart => exact ⟨0, Nat.zero_le _, rfl, by simp, by simpa [upto] using h, World.grownBy.refl _ _⟩
  case round =>
    clear h
    obtain ⟨k, hk, rfl, rfl, hown, hg⟩ := hrel
    by_cases hlt : k < n
    · obtain ⟨g, rfl, hlo, hhi, hgs⟩ := hown.addr (by omega)
      have hcell := hown.cell hlt
      have hfr := hown.frozen k
      have hst := hown.set k (k0 + k)
      have hg' : w.grownBy (wr.setCell ⟨g, k, none⟩ (.int .i64 (k0 + k))) (some g) := ⟨hg.os, hg.tape, hg.output, by simpa [World.setCell] using hg.size, fun i hi' hne => (hst.2.block i (by have := hg.size; omega) hne).trans (hg.block i hi' hne)⟩
      generalize (upto k0 k ++ xs.drop k).getD k 0 = y at hcell
      have e := Lib.hid (Plain.set_upto k0 xs n k hlen.out hlt)
      have hi : (k : Int) < (n : Int) := by omega
      clear hown hg
      go_wp2
      refine ⟨⟨k + 1, by omega, by go_num, by go_num, ?_, hg'⟩, by simp [intOf]; omega⟩
      have e' := e.out
      unfold upto at hst ⊢
      rw [← e']
      exact hst.1
    · go_wp2
      go_ret
      obtain rfl : k = n := by omega
      refine ⟨rfl, ?_, hg⟩
      rw [List.drop_of_length_le (by rw [hlen.out]; exact Nat.le_refl _), List.append_nil] at hown
      exact hown

/-! ### Tensors -/

theorem OwnT.grownBelow {w w' : World} {B lo hi n0 c0 n1 c1 n2 c2 : Nat} {A0 A1 A2 : Option Addr} {t : Ten} (h : OwnT w lo hi A0 n0 c0 A1 n1 c1 A2 n2 c2 t) (hb : Below B w w') (hB : hi ≤ B) : OwnT w' lo hi A0 n0 c0 A1 n1 c1 A2 n2 c2 t := h.below hb hB

def szT (left : Int) (n0 n1 n2 : Nat) : Int := if (n0 : Int) + n1 + n2 ≤ left then left - n0 - n1 - n2 else -1

set_option maxHeartbeats 400000 in
theorem szTensor_any (A0 : Option Addr) (n0 c0 : Nat) (A1 : Option Addr) (n1 c1 : Nat) (A2 : Option Addr) (n2 c2 : Nat) (left : Int) (w : World) (h0 : 0 ≤ left) (h1 : left ≤ 1048576)
    (k0 : n0 ≤ 9223372036854775807) (k1 : n1 ≤ 9223372036854775807) (k2 : n2 ≤ 9223372036854775807) :
    Calls Try.prog 15 #[.agg #[.slice A0 n0 c0, .slice A1 n1 c1, .slice A2 n2 c2], .int .i64 left] w (RetV w (.int .i64 (szT left n0 n1 n2))) := by
  by_cases a0 : (n0 : Int) ≤ left
  · by_cases a1 : (n0 : Int) + n1 ≤ left
    · by_cases a2 : (n0 : Int) + n1 + n2 ≤ left
      · have e : szT left n0 n1 n2 = left - n0 - n1 - n2 := by unfold szT; rw [if_pos (by omega)]
        rw [e]
        clear e
        go_enter Try.func15, Try.ntmps15
        go_wp2_with (go_at_call 49; refine (szIntS_any _ _ _ _ _ (by omega) (by omega) (by omega)).mono ?_; rintro e w' ⟨rfl, rfl⟩; rw [szI_yes (by omega)])
        go_ret
        exact ⟨rfl, (Below.refl _ _).alloc (Nat.le_refl _) _⟩
      · have e : szT left n0 n1 n2 = -1 := by unfold szT; rw [if_neg (by omega)]
        rw [e]
        clear e
        go_enter Try.func15, Try.ntmps15
        go_wp2_with (go_at_call 49; refine (szIntS_any _ _ _ _ _ (by omega) (by omega) (by omega)).mono ?_; rintro e w' ⟨rfl, rfl⟩; first | rw [szI_yes (by omega)] | rw [szI_no (by omega)])
        go_ret
        exact ⟨rfl, (Below.refl _ _).alloc (Nat.le_refl _) _⟩
    · have e : szT left n0 n1 n2 = -1 := by unfold szT; rw [if_neg (by omega)]
      rw [e]
      clear e
      go_enter Try.func15, Try.ntmps15
      go_wp2_with (go_at_call 49; refine (szIntS_any _ _ _ _ _ (by omega) (by omega) (by omega)).mono ?_; rintro e w' ⟨rfl, rfl⟩; first | rw [szI_yes (by omega)] | rw [szI_no (by omega)])
      go_ret
      exact ⟨rfl, (Below.refl _ _).alloc (Nat.le_refl _) _⟩
  · have e : szT left n0 n1 n2 = -1 := by unfold szT; rw [if_neg (by omega)]
    rw [e]
    clear e
    go_enter Try.func15, Try.ntmps15
    go_wp2_with (go_at_call 49; refine (szIntS_any _ _ _ _ _ (by omega) (by omega) (by omega)).mono ?_; rintro e w' ⟨rfl, rfl⟩; first | rw [szI_yes (by omega)] | rw [szI_no (by omega)])
    go_ret
    exact ⟨rfl, (Below.refl _ _).alloc (Nat.le_refl _) _⟩

end Go.Proofs.Ytmgifmgdfldheaa
