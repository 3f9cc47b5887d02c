/-
  Contracts: OffsetOf and IndexAt, in the program and in the reference. No condition but bounds on lengths.
-/
import Derived.Test.YtmgifmgdfldheaaIndex
namespace Go.Proofs.Ytmgifmgdfldheaa
open Go.RowKit Plain

theorem offsetOf_no1 {ls ds is : List Int} (h : tsize ls ds = -1) : offsetOf ls ds is = -1 := if_neg (fun x => x.1 h)
theorem offsetOf_no2 {ls ds is : List Int} (h : ¬ idxOk ds is) : offsetOf ls ds is = -1 := if_neg (fun x => h x.2)
theorem offsetOf_yes {ls ds is : List Int} (h : tsize ls ds ≠ -1) (h2 : idxOk ds is) : offsetOf ls ds is = offs ds is := if_pos ⟨h, h2⟩

section
variable {W : World} {A0 : Option Addr} {n0 c0 : Nat} {A1 : Option Addr} {n1 c1 : Nat} {A2 : Option Addr} {n2 c2 : Nat} {t : Ten} {A : Option Addr} {n c : Nat} {is : List Int} {x : Int}

set_option maxHeartbeats 800000 in
theorem iOffsetOf_c (h : TnOk W A0 n0 c0 A1 n1 c1 A2 n2 c2 t) (hi : SlOk W A n c is) :
    Calls Try.prog 22 #[.agg #[.slice A0 n0 c0, .slice A1 n1 c1, .slice A2 n2 c2], .slice A n c] W (RetV W (.int .i64 (offsetOf t.labels t.dims is))) := by
  have st0 := Step.alloc W (.cells #[.slice A0 n0 c0, .slice A1 n1 c1, .slice A2 n2 c2] 27)
  rcases tsize_cases t.labels t.dims with hs | ⟨hax, hp, hs, hp1⟩
  · have hr := Lib.hid (@offsetOf_no1 _ _ is hs)
    have HS := Lib.hid hs
    clear hs
    go_enter Try.func22, Try.ntmps22
    go_wp2_with fail
    refine (iTensorSize_c (h.step st0)).mono ?_
    rintro e w1 ⟨rfl, st1⟩
    rw [HS.out]
    go_wp2_with fail
    go_ret
    exact ⟨ret_int hr.out.symm, st0.trans st1⟩
  · have HS := Lib.hid hs
    have hb := Lib.hid (show (prodI t.dims == -1) = false by simp; omega)
    have HAX := Lib.hid hax
    have hdm := Lib.hid hax.dim
    by_cases hok : idxOk t.dims is
    · have hr := Lib.hid (offsetOf_yes (ls := t.labels) (by rw [hs]; omega) hok)
      have hbt : idxB t.dims is = true := decide_eq_true hok
      have HOK := Lib.hid hok
      clear hs hax hok
      go_enter Try.func22, Try.ntmps22
      go_wp2_with fail
      refine (iTensorSize_c (h.step st0)).mono ?_
      rintro e w1 ⟨rfl, st1⟩
      rw [HS.out]
      have hb' := hb.out
      obtain ⟨hc1, _⟩ := bcell (Below.mono st1 (B' := W.heap.size + 1) (by simp))
      go_wp2_with (first
        | (go_at_call 55; refine (indexOk_c ((h.d.step st0).step st1) ((hi.step st0).step st1)).mono ?_; rintro e w' ⟨rfl, rfl⟩)
        | (go_at_call 56; refine (offsetIn_c ((h.d.step st0).step st1) ((hi.step st0).step st1) HOK.out hdm.out hp).mono ?_; rintro e w' ⟨rfl, rfl⟩))
      go_ret
      exact ⟨ret_int hr.out.symm, st0.trans st1⟩
    · have hr := Lib.hid (@offsetOf_no2 t.labels _ _ hok)
      have hbt : idxB t.dims is = false := decide_eq_false hok
      clear hs hax hok
      go_enter Try.func22, Try.ntmps22
      go_wp2_with fail
      refine (iTensorSize_c (h.step st0)).mono ?_
      rintro e w1 ⟨rfl, st1⟩
      rw [HS.out]
      have hb' := hb.out
      obtain ⟨hc1, _⟩ := bcell (Below.mono st1 (B' := W.heap.size + 1) (by simp))
      go_wp2_with (first
        | (go_at_call 55; refine (indexOk_c ((h.d.step st0).step st1) ((hi.step st0).step st1)).mono ?_; rintro e w' ⟨rfl, rfl⟩))
      go_ret
      exact ⟨ret_int hr.out.symm, st0.trans st1⟩

set_option maxHeartbeats 800000 in
theorem sOffsetOf_c (h : TnOk W A0 n0 c0 A1 n1 c1 A2 n2 c2 t) (hi : SlOk W A n c is) :
    Calls Try.prog 20 #[.agg #[.slice A0 n0 c0, .slice A1 n1 c1, .slice A2 n2 c2], .slice A n c] W (RetV W (.int .i64 (offsetOf t.labels t.dims is))) := by
  have st0 := Step.alloc W (.cells #[.slice A0 n0 c0, .slice A1 n1 c1, .slice A2 n2 c2] 27)
  have hin := hi.len
  rcases tsize_cases t.labels t.dims with hs | ⟨hax, hp, hs, hp1⟩
  · have hr := Lib.hid (@offsetOf_no1 _ _ is hs)
    have HS := Lib.hid hs
    clear hs
    go_enter Try.func20, Try.ntmps20
    go_wp2_with fail
    refine (sTensorSize_c (h.step st0)).mono ?_
    rintro e w1 ⟨rfl, st1⟩
    rw [HS.out]
    go_wp2_with fail
    go_ret
    exact ⟨ret_int hr.out.symm, st0.trans st1⟩
  · have HS := Lib.hid hs
    have HAX := Lib.hid hax
    have hdm := Lib.hid hax.dim
    have hld := Lib.hid h.d.at_.len
    have hli := Lib.hid hi.at_.len
    have hdn := h.d.len
    clear hs hax
    by_cases hne : n = n1
    case neg =>
      have hr := Lib.hid (@offsetOf_no2 t.labels t.dims is (fun hh => hne (by rw [← hld.out, ← hli.out, hh.1])))
      have ht : ((n : Int) != (n1 : Int)) = true := by rw [bne_iff_ne]; omega
      go_enter Try.func20, Try.ntmps20
      go_wp2_with fail
      refine (sTensorSize_c (h.step st0)).mono ?_
      rintro e w1 ⟨rfl, st1⟩
      rw [HS.out]
      obtain ⟨hc1, _⟩ := bcell (Below.mono st1 (B' := W.heap.size + 1) (by simp))
      go_wp2_with fail
      go_ret
      exact ⟨ret_int hr.out.symm, st0.trans st1⟩
    subst hne
    go_enter Try.func20, Try.ntmps20
    go_wp2_with fail
    refine (sTensorSize_c (h.step st0)).mono ?_
    rintro e w1 ⟨rfl, st1⟩
    rw [HS.out]
    obtain ⟨hc1, _⟩ := bcell (Below.mono st1 (B' := W.heap.size + 1) (by simp))
    go_wp2_with fail
    have hd1 := (h.d.step st0).step st1
    have hi1 := (hi.step st0).step st1
    clear h hi
    go_loop [21] (fun i => ∃ k : Nat, k ≤ n ∧ i = .int .i64 k ∧ ∀ j, j < k → idxAt t.dims is j) (fun i => n - (intOf i).toNat)
    case atStart => exact ⟨0, Nat.zero_le _, rfl, fun j hj => absurd hj (by omega)⟩
    case round =>
      obtain ⟨k, hk, rfl, hax⟩ := hrel
      have HX := Lib.hid hax
      clear hax
      by_cases hlt : k < n
      · obtain ⟨b, off, rfl, hb, hc⟩ := hd1.at_.at_ (by omega)
        obtain ⟨b', off', rfl, hb', hc'⟩ := hi1.at_.at_ (by omega)
        have hck := hc k hlt
        have hck' := hc' k hlt
        have hbad := Lib.hid (fun (hh : ¬ idxAt t.dims is k) => @offsetOf_no2 t.labels t.dims is (fun x => hh (x.2 k (by rw [hld.out]; exact hlt))))
        have hdef := Lib.hid (show idxAt t.dims is k ↔ 0 ≤ is.getD k 0 ∧ is.getD k 0 < t.dims.getD k 0 from Iff.rfl)
        obtain ⟨d1, d2⟩ := hdm.out _ (mem_of_get t.dims k (by rw [hld.out]; omega))
        generalize hx : is.getD k 0 = x at hck' hdef
        generalize hy : t.dims.getD k 0 = y at hck hdef d1 d2
        have hki : (k : Int) < (n : Int) := by omega
        clear hx hy hc hc' hd1 hi1
        by_cases hg : 0 ≤ x ∧ x < y
        · obtain ⟨g1, g2⟩ := hg
          go_wp2_with (go_at_call 53; refine (l01In_yes _ _ _ _ (by omega) (by omega)).mono ?_; rintro e w' ⟨rfl, rfl⟩)
          go_round
          case rel =>
            refine ⟨k + 1, by omega, by go_num, fun j hj => ?_⟩
            rcases Nat.lt_or_ge j k with h1 | h1
            · exact HX.out j h1
            · obtain rfl : j = k := by omega
              exact hdef.out.2 ⟨g1, g2⟩
          case measure => simp [intOf]; omega
        · have hr := Lib.hid (hbad.out (fun hh => hg (hdef.out.1 hh)))
          have HG := Lib.hid hg
          clear hg
          go_wp2_with (go_at_call 53; refine (l01In_no _ _ _ _ (by have := HG.out; omega)).mono ?_; rintro e w' ⟨rfl, rfl⟩)
          go_ret
          exact ⟨ret_int hr.out.symm, st0.trans st1⟩
      · obtain rfl : k = n := by omega
        have HOK := Lib.hid (show idxOk t.dims is from ⟨by rw [hld.out, hli.out], by rw [hld.out]; exact HX.out⟩)
        have hr := Lib.hid (offsetOf_yes (ls := t.labels) (by rw [HS.out]; omega) HOK.out)
        go_wp2_with (go_at_call 54; refine (l05Offset_c hd1 hi1 HOK.out hdm.out hp).mono ?_; rintro e w' ⟨rfl, rfl⟩)
        go_ret
        exact ⟨ret_int hr.out.symm, st0.trans st1⟩

set_option maxHeartbeats 400000 in
theorem indexIn_c (hd : SlOk W A n c is) (hx0 : 0 ≤ x) (hx1 : x ≤ 1099511627776) (hn : n ≤ 1048576) (hdm : ∀ d ∈ is, 1 ≤ d ∧ d ≤ 8) :
    Calls Try.prog 58 #[.slice A n c, .int .i64 x] W (RetI W (digits is x)) := by
  have hld := Lib.hid hd.at_.len
  have hdl := Lib.hid (digits_len is x)
  have HDM := Lib.hid hdm
  have hmk := run_make_ints n n (Nat.le_refl _) (by omega)
  have hown := OwnI.zeros_ (w := W) (lo := W.heap.size) n (Nat.le_refl _) (by omega)
  have hb0 : Below W.heap.size W (W.alloc (.cells (zeros n) 3)) := (Below.refl _ _).alloc (Nat.le_refl _) _
  clear hdm
  go_enter Try.func58, Try.ntmps58
  go_wp2_with fail
  generalize W.alloc (.cells (zeros n) 3) = w1 at *
  go_loopw [1, 6] (fun s i wr => ∃ k : Nat, k ≤ n ∧ i = .int .i64 ((k : Int) - 1) ∧ s = .int .i64 (x / prodI (is.drop k)) ∧ OwnI wr W.heap.size (W.heap.size + 1) (some ⟨W.heap.size, 0, none⟩) n n (List.replicate k 0 ++ (digits is x).drop k) ∧ Below W.heap.size W wr) (fun _ i _ => (intOf i + 1).toNat)
  case atStart => exact ⟨n, Nat.le_refl _, rfl, by rw [List.drop_of_length_le (by rw [hld.out]; exact Nat.le_refl _)]; simp [prodI], by rw [List.drop_of_length_le (by rw [hdl.out, hld.out]; exact Nat.le_refl _), List.append_nil]; exact hown, hb0⟩
  case round =>
    clear hmk hown hb0
    obtain ⟨k, hk, rfl, rfl, hown, hb⟩ := hrel
    rcases k with _ | j
    · go_wp2
      go_ret
      have hn' : n = (digits is x).length := by rw [hdl.out, hld.out]
      rw [List.replicate_zero, List.nil_append, List.drop_zero] at hown
      obtain ⟨D, hD⟩ : ∃ D, D = digits is x := ⟨_, rfl⟩
      rw [← hD] at hown hn' ⊢
      subst hn'
      exact ⟨_, _, rfl, hown.top, hb⟩
    · have e1 : ((j + 1 : Nat) : Int) - 1 = (j : Int) := by omega
      rw [e1]
      obtain ⟨b, off, rfl, hbB, hc⟩ := (hd.at_.below hb (Nat.le_refl _)).at_ (by omega)
      have hjn : j < n := by omega
      have hck := hc j hjn
      have hcell := hown.cell hjn
      have hfr := hown.frozen j
      obtain ⟨d1, d2⟩ := HDM.out _ (mem_of_get is j (by rw [hld.out]; omega))
      have hq := Lib.hid (quot_step is x j (by rw [hld.out]; omega) (fun d hx => (HDM.out d hx).1))
      have hpos := prodI_pos (is.drop (j + 1)) (fun d hx => (HDM.out d (List.mem_of_mem_drop hx)).1)
      have hdig := Lib.hid (show digit is x j = (x / prodI (is.drop (j + 1))) % is.getD j 0 from rfl)
      have hset := Lib.hid (set_rep_drop (digits is x) j n (by rw [hdl.out, hld.out]) hjn)
      rw [digits_get is x j (by rw [hld.out]; omega)] at hset
      have hq0 : 0 ≤ x / prodI (is.drop (j + 1)) := Int.ediv_nonneg hx0 (by omega)
      have hq1 : x / prodI (is.drop (j + 1)) ≤ x := Int.ediv_le_self _ hx0
      have hst := hown.set j (digit is x j)
      have hb' := hb.setCell (p := ⟨W.heap.size, j, none⟩) (Nat.le_refl _) (.int .i64 (digit is x j))
      rw [hdig.out] at hst hb'
      generalize x / prodI (is.drop (j + 1)) = q at *
      generalize hy : is.getD j 0 = y at *
      have hji : (j : Int) < (n : Int) := by omega
      have hwr : W.heap.size ≤ wr.heap.size := hb.size
      generalize (List.replicate (j + 1) 0 ++ List.drop (j + 1) (digits is x)).getD j 0 = u at hcell
      have hne : b ≠ W.heap.size := by omega
      have hck2 := World.cell?_setCell_other wr ⟨W.heap.size, j, none⟩ ⟨b, off + j, none⟩ (.int .i64 (q % y)) (fun e => hne (by injection e with e1; exact e1.symm))
      rw [hck] at hck2
      clear hc hown hb hy e1
      go_wp2
      refine ⟨⟨j, by omega, by go_num, by rw [hq.out], ?_, hb'⟩, by simp [intOf]⟩
      rw [← hset.out, hdig.out]
      exact hst.1

set_option maxHeartbeats 400000 in
theorem l05Index_c (hd : SlOk W A n c is) (hx0 : 0 ≤ x) (hx1 : x ≤ 1099511627776) (hn : n ≤ 1048576) (hdm : ∀ d ∈ is, 1 ≤ d ∧ d ≤ 8) :
    Calls Try.prog 57 #[.slice A n c, .int .i64 x] W (RetI W (digits is x)) := by
  have hld := Lib.hid hd.at_.len
  have hdl := Lib.hid (digits_len is x)
  have HDM := Lib.hid hdm
  have hmk := run_make_ints n n (Nat.le_refl _) (by omega)
  have hown := OwnI.zeros_ (w := W) (lo := W.heap.size) n (Nat.le_refl _) (by omega)
  have hb0 : Below W.heap.size W (W.alloc (.cells (zeros n) 3)) := (Below.refl _ _).alloc (Nat.le_refl _) _
  clear hdm
  go_enter Try.func57, Try.ntmps57
  go_wp2_with fail
  generalize W.alloc (.cells (zeros n) 3) = w1 at *
  go_loopw [1, 6] (fun s i wr => ∃ k : Nat, k ≤ n ∧ i = .int .i64 ((k : Int) - 1) ∧ s = .int .i64 (x / prodI (is.drop k)) ∧ OwnI wr W.heap.size (W.heap.size + 1) (some ⟨W.heap.size, 0, none⟩) n n (List.replicate k 0 ++ (digits is x).drop k) ∧ Below W.heap.size W wr) (fun _ i _ => (intOf i + 1).toNat)
  case atStart => exact ⟨n, Nat.le_refl _, rfl, by rw [List.drop_of_length_le (by rw [hld.out]; exact Nat.le_refl _)]; simp [prodI], by rw [List.drop_of_length_le (by rw [hdl.out, hld.out]; exact Nat.le_refl _), List.append_nil]; exact hown, hb0⟩
  case round =>
    clear hmk hown hb0
    obtain ⟨k, hk, rfl, rfl, hown, hb⟩ := hrel
    rcases k with _ | j
    · go_wp2
      go_ret
      have hn' : n = (digits is x).length := by rw [hdl.out, hld.out]
      rw [List.replicate_zero, List.nil_append, List.drop_zero] at hown
      obtain ⟨D, hD⟩ : ∃ D, D = digits is x := ⟨_, rfl⟩
      rw [← hD] at hown hn' ⊢
      subst hn'
      exact ⟨_, _, rfl, hown.top, hb⟩
    · have e1 : ((j + 1 : Nat) : Int) - 1 = (j : Int) := by omega
      rw [e1]
      obtain ⟨b, off, rfl, hbB, hc⟩ := (hd.at_.below hb (Nat.le_refl _)).at_ (by omega)
      have hjn : j < n := by omega
      have hck := hc j hjn
      have hcell := hown.cell hjn
      have hfr := hown.frozen j
      obtain ⟨d1, d2⟩ := HDM.out _ (mem_of_get is j (by rw [hld.out]; omega))
      have hq := Lib.hid (quot_step is x j (by rw [hld.out]; omega) (fun d hx => (HDM.out d hx).1))
      have hpos := prodI_pos (is.drop (j + 1)) (fun d hx => (HDM.out d (List.mem_of_mem_drop hx)).1)
      have hdig := Lib.hid (show digit is x j = (x / prodI (is.drop (j + 1))) % is.getD j 0 from rfl)
      have hset := Lib.hid (set_rep_drop (digits is x) j n (by rw [hdl.out, hld.out]) hjn)
      rw [digits_get is x j (by rw [hld.out]; omega)] at hset
      have hq0 : 0 ≤ x / prodI (is.drop (j + 1)) := Int.ediv_nonneg hx0 (by omega)
      have hq1 : x / prodI (is.drop (j + 1)) ≤ x := Int.ediv_le_self _ hx0
      have hst := hown.set j (digit is x j)
      have hb' := hb.setCell (p := ⟨W.heap.size, j, none⟩) (Nat.le_refl _) (.int .i64 (digit is x j))
      rw [hdig.out] at hst hb'
      generalize x / prodI (is.drop (j + 1)) = q at *
      generalize hy : is.getD j 0 = y at *
      have hji : (j : Int) < (n : Int) := by omega
      have hwr : W.heap.size ≤ wr.heap.size := hb.size
      generalize (List.replicate (j + 1) 0 ++ List.drop (j + 1) (digits is x)).getD j 0 = u at hcell
      have hne : b ≠ W.heap.size := by omega
      have hck2 := World.cell?_setCell_other wr ⟨W.heap.size, j, none⟩ ⟨b, off + j, none⟩ (.int .i64 (q % y)) (fun e => hne (by injection e with e1; exact e1.symm))
      rw [hck] at hck2
      clear hc hown hb hy e1
      go_wp2
      refine ⟨⟨j, by omega, by go_num, by rw [hq.out], ?_, hb'⟩, by simp [intOf]⟩
      rw [← hset.out, hdig.out]
      exact hst.1

end

end Go.Proofs.Ytmgifmgdfldheaa
