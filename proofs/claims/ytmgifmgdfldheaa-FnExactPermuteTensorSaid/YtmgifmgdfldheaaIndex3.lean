/-
  Contracts: IndexAt, in the program and in the reference. No condition but bounds on lengths.
-/
import Derived.Test.YtmgifmgdfldheaaIndex2
namespace Go.Proofs.Ytmgifmgdfldheaa
open Go.RowKit Plain

theorem indexAt_no {ls ds : List Int} {x : Int} (h : ¬ (0 ≤ x ∧ x < tsize ls ds)) : indexAt ls ds x = [] ∧ indexAtOk ls ds x = false := ⟨if_neg h, decide_eq_false h⟩
theorem indexAt_yes {ls ds : List Int} {x : Int} (h : 0 ≤ x ∧ x < tsize ls ds) : indexAt ls ds x = digits ds x ∧ indexAtOk ls ds x = true := ⟨if_pos h, decide_eq_true h⟩

section
variable {W : World} {A0 : Option Addr} {n0 c0 : Nat} {A1 : Option Addr} {n1 c1 : Nat} {A2 : Option Addr} {n2 c2 : Nat} {t : Ten} {x : Int}

set_option maxHeartbeats 800000 in
theorem iIndexAt_c (h : TnOk W A0 n0 c0 A1 n1 c1 A2 n2 c2 t) (hx : I64 x) :
    Calls Try.prog 25 #[.agg #[.slice A0 n0 c0, .slice A1 n1 c1, .slice A2 n2 c2], .int .i64 x] W (RetIB W (indexAt t.labels t.dims x) (indexAtOk t.labels t.dims x)) := by
  have st0 := Step.alloc W (.cells #[.slice A0 n0 c0, .slice A1 n1 c1, .slice A2 n2 c2] 27)
  obtain ⟨x1, x2⟩ := hx
  by_cases hin : 0 ≤ x ∧ x < tsize t.labels t.dims
  · obtain ⟨e1, e2⟩ := indexAt_yes hin
    rw [e1, e2]
    clear e1 e2
    rcases tsize_cases t.labels t.dims with hs | ⟨hax, hp, hs, hp1⟩
    · omega
    obtain ⟨g1, g2⟩ := hin
    have hdm := Lib.hid hax.dim
    have hdl := Lib.hid h.d.at_.len
    have hn1 : n1 ≤ 12 := by have := hax.1; have := hax.2.1; rw [← hdl.out]; omega
    have HS := Lib.hid hs
    rw [hs] at g2
    have hb := Lib.hid (show (prodI t.dims == -1) = false by simp; omega)
    clear hs hax
    go_enter Try.func25, Try.ntmps25
    go_wp2_with fail
    refine (iTensorSize_c (h.step st0)).mono ?_
    rintro e w1 ⟨rfl, st1⟩
    rw [HS.out]
    have hb' := hb.out
    obtain ⟨hc1, _⟩ := bcell (Below.mono st1 (B' := W.heap.size + 1) (by simp))
    go_wp2_with fail
    refine (indexIn_c ((h.d.step st0).step st1) g1 (by omega) (by omega) hdm.out).mono ?_
    rintro e w2 ⟨A, c, rfl, own, st2⟩
    go_wp2_with fail
    go_ret2
    exact ⟨A, c, rfl, own.mono (st0.trans st1).size (Nat.le_refl _), (st0.trans st1).trans st2⟩
  · obtain ⟨e1, e2⟩ := indexAt_no hin
    rw [e1, e2]
    clear e1 e2
    have fin : ∀ W', Step W W' → RetIB W [] false (.returned (.tuple #[.slice none 0 0, .bool false])) W' := fun W' st => ⟨none, 0, rfl, OwnI.nil, st⟩
    by_cases g1 : 0 ≤ x
    · have g2 : tsize t.labels t.dims ≤ x := by omega
      clear hin
      go_enter Try.func25, Try.ntmps25
      go_wp2_with fail
      refine (iTensorSize_c (h.step st0)).mono ?_
      rintro e w1 ⟨rfl, st1⟩
      by_cases hm : tsize t.labels t.dims = -1
      · rw [hm]
        clear hm g2
        go_wp2_with fail
        go_ret2
        exact fin _ (st0.trans st1)
      · have hb : (tsize t.labels t.dims == -1) = false := by simpa using hm
        generalize tsize t.labels t.dims = s at *
        clear hm
        go_wp2_with fail
        go_ret2
        exact fin _ (st0.trans st1)
    · clear hin
      have g3 : x < 0 := by omega
      clear g1
      go_enter Try.func25, Try.ntmps25
      go_wp2_with fail
      refine (iTensorSize_c (h.step st0)).mono ?_
      rintro e w1 ⟨rfl, st1⟩
      by_cases hm : tsize t.labels t.dims = -1
      · rw [hm]
        clear hm
        go_wp2_with fail
        go_ret2
        exact fin _ (st0.trans st1)
      · have hb : (tsize t.labels t.dims == -1) = false := by simpa using hm
        generalize tsize t.labels t.dims = s at *
        clear hm
        go_wp2_with fail
        go_ret2
        exact fin _ (st0.trans st1)

set_option maxHeartbeats 800000 in
theorem sIndexAt_c (h : TnOk W A0 n0 c0 A1 n1 c1 A2 n2 c2 t) (hx : I64 x) :
    Calls Try.prog 24 #[.agg #[.slice A0 n0 c0, .slice A1 n1 c1, .slice A2 n2 c2], .int .i64 x] W (RetIB W (indexAt t.labels t.dims x) (indexAtOk t.labels t.dims x)) := by
  have st0 := Step.alloc W (.cells #[.slice A0 n0 c0, .slice A1 n1 c1, .slice A2 n2 c2] 27)
  obtain ⟨x1, x2⟩ := hx
  have hsb : -1 ≤ tsize t.labels t.dims ∧ tsize t.labels t.dims ≤ 4096 := by rcases tsize_cases t.labels t.dims with hs | ⟨hax, hp, hs, hp1⟩ <;> omega
  obtain ⟨b1, b2⟩ := hsb
  by_cases hin : 0 ≤ x ∧ x < tsize t.labels t.dims
  · obtain ⟨e1, e2⟩ := indexAt_yes hin
    rw [e1, e2]
    clear e1 e2
    rcases tsize_cases t.labels t.dims with hs | ⟨hax, hp, hs, hp1⟩
    · omega
    obtain ⟨g1, g2⟩ := hin
    have hdm := Lib.hid hax.dim
    have hdl := Lib.hid h.d.at_.len
    have hn1 : n1 ≤ 12 := by have := hax.1; have := hax.2.1; rw [← hdl.out]; omega
    clear hs hax
    go_enter Try.func24, Try.ntmps24
    go_wp2_with fail
    refine (sTensorSize_c (h.step st0)).mono ?_
    rintro e w1 ⟨rfl, st1⟩
    generalize tsize t.labels t.dims = s at *
    obtain ⟨hc1, _⟩ := bcell (Below.mono st1 (B' := W.heap.size + 1) (by simp))
    go_wp2_with (go_at_call 53; refine (l01In_yes _ _ _ _ (by omega) (by omega)).mono ?_; rintro e w' ⟨rfl, rfl⟩)
    refine (l05Index_c ((h.d.step st0).step st1) g1 (by omega) (by omega) hdm.out).mono ?_
    rintro e w2 ⟨A, c, rfl, own, st2⟩
    go_wp2_with fail
    go_ret2
    exact ⟨A, c, rfl, own.mono (st0.trans st1).size (Nat.le_refl _), (st0.trans st1).trans st2⟩
  · obtain ⟨e1, e2⟩ := indexAt_no hin
    rw [e1, e2]
    clear e1 e2
    have HI := Lib.hid hin
    clear hin
    go_enter Try.func24, Try.ntmps24
    go_wp2_with fail
    refine (sTensorSize_c (h.step st0)).mono ?_
    rintro e w1 ⟨rfl, st1⟩
    generalize tsize t.labels t.dims = s at *
    go_wp2_with (go_at_call 53; refine (l01In_no _ _ _ _ (by have := HI.out; omega)).mono ?_; rintro e w' ⟨rfl, rfl⟩)
    go_ret2
    exact ⟨none, 0, rfl, OwnI.nil, st0.trans st1⟩

theorem szIndexAt {t : Ten} {x : Int} (hs : TnSz 1048576 t) (_hx : I64 x) : (indexAt t.labels t.dims x).length ≤ 268435456 := by
  unfold indexAt
  split
  · rw [digits_len]; have := hs.d.len; omega
  · simp
end

end Go.Proofs.Ytmgifmgdfldheaa
