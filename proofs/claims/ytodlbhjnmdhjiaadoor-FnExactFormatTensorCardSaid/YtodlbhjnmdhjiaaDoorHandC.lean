/-
  Regions that draw their order, operation by operation: taking first what yields, and passing over all whose guard says no. No condition.
-/
import Derived.Test.YtodlbhjnmdhjiaaDoorHandA
import Derived.Deep.RegionHeld3
import Derived.Test.YtodlbhjnmdhjiaaDoorHandB
import Derived.Test.YtodlbhjnmdhjiaaDoorPlainA
namespace Go.Proofs.YtodlbhjnmdhjiaaDoor
open Go.RowKit

section
variable {P : Program} {l : List Oper} {Q : Exit → Act → World → Prop} {md : Region.Mode} {S : World → Prop} {fuel : Nat} {listed : Array Bool} {a : Act} {w : World}

/-- The operation number i is carried out first. -/
theorem takeL (i : Nat) {oi : Oper} {v : Value} (hi : l[i]? = some oi) (hs : Region.noSelect l.toArray = true) (hf : Region.free md l.toArray listed i = true) (hr : (Region.ready md l.toArray listed).contains i = true)
    (hQ : ∀ c a w, Q (.panic c) (a.put oi.dst v) w → Q (.panic c) a w) (hw : Region.wanted oi (yielded l.toArray a.tmps) = true) (hy : ∀ w, S w → (execOp a.eval oi).run P w = .ok (.value v) w) (hS : S w)
    (h : wpAnyH P md l.toArray Q S fuel (listed.setIfInBounds i true) (a.put oi.dst v) w) : wpAnyH P md l.toArray Q S (fuel + 1) listed a w :=
  wpAnyH_take (by simpa using hi) hs hf hr hQ (.inl ⟨hw, hy⟩) hS h

/-- May these operations be passed over, one behind the other: each is ready, waits for nobody, and its guard says no? -/
def deadOk (md : Region.Mode) (l : List Oper) : List Nat → Array Bool → Array Value → Bool
  | [], _, _ => true
  | i :: is, listed, tmps =>
    match l[i]? with
    | none => false
    | some o => Region.free md l.toArray listed i && (Region.ready md l.toArray listed).contains i && !(Region.wanted o (yielded l.toArray tmps)) &&
        deadOk md l is (listed.setIfInBounds i true) (match o.dst with | some d => tmps.setIfInBounds d undef | none => tmps)
def deadListed : List Nat → Array Bool → Array Bool
  | [], listed => listed
  | i :: is, listed => deadListed is (listed.setIfInBounds i true)
def deadTmps (l : List Oper) : List Nat → Array Value → Array Value
  | [], tmps => tmps
  | i :: is, tmps => deadTmps l is (match (l[i]?).bind (·.dst) with | some d => tmps.setIfInBounds d undef | none => tmps)

theorem passL (hs : Region.noSelect l.toArray = true) (hQ : ∀ c ts ts' ds w, Q (.panic c) ⟨ts', ds⟩ w → Q (.panic c) ⟨ts, ds⟩ w) (hS : S w) :
    ∀ (is : List Nat) (listed : Array Bool) (tmps : Array Value) (ds : List Deferred), deadOk md l is listed tmps = true →
      wpAnyH P md l.toArray Q S fuel (deadListed is listed) ⟨deadTmps l is tmps, ds⟩ w → wpAnyH P md l.toArray Q S (fuel + is.length) listed ⟨tmps, ds⟩ w := by
  intro is
  induction is with
  | nil => intro listed tmps ds _ h; exact h
  | cons i is ih =>
    intro listed tmps ds hok h
    unfold deadOk at hok
    split at hok
    · cases hok
    · rename_i o ho
      simp only [Bool.and_eq_true, Bool.not_eq_true'] at hok
      obtain ⟨⟨⟨h1, h2⟩, h3⟩, h4⟩ := hok
      have e : deadTmps l (i :: is) tmps = deadTmps l is (match o.dst with | some d => tmps.setIfInBounds d undef | none => tmps) := by
        show deadTmps l is _ = _
        rw [ho]; rfl
      rw [e] at h
      have h5 := ih _ _ ds h4 h
      refine wpAnyH_take (i := i) (oi := o) (v := undef) (by simpa using ho) hs h1 h2 (fun c a w h => by
        obtain ⟨ts, d0⟩ := a
        refine hQ c ts (Act.put ⟨ts, d0⟩ o.dst undef).tmps d0 w ?_
        have e3 : Act.put ⟨ts, d0⟩ o.dst undef = ⟨(Act.put ⟨ts, d0⟩ o.dst undef).tmps, d0⟩ := by unfold Act.put; cases o.dst <;> rfl
        rw [e3] at h
        exact h) (.inr ⟨h3, rfl⟩) hS ?_
      have e2 : (⟨tmps, ds⟩ : Act).put o.dst undef = ⟨(match o.dst with | some d => tmps.setIfInBounds d undef | none => tmps), ds⟩ := by
        unfold Act.put; cases o.dst <;> rfl
      rw [e2]
      exact h5

/-- The one operation that may come up now is number i: a call. -/
theorem callL (i : Nat) {oi : Oper} (hi : l[i]? = some oi) (hr : Region.ready md l.toArray listed = [i])
    (h : ∀ K' : Act → World → Prop, Shut (∀ a w, S w → (S w → wpAnyH P md l.toArray Q S fuel (listed.setIfInBounds i true) a w) → K' a w) → if Region.wanted oi (yielded l.toArray a.tmps) = true then Oper.wp P oi a w K' Q else K' (a.put oi.dst undef) w) :
    wpAnyH P md l.toArray Q S (fuel + 1) listed a w :=
  wpAnyH_ready hr (by simp) (AllReadyH.cons (by simpa using hi) h AllReadyH.nil)
end

end Go.Proofs.YtodlbhjnmdhjiaaDoor

/-
  Contracts: TensorOk, in the program and in the reference. No condition.
-/
namespace Go.Proofs.YtodlbhjnmdhjiaaDoor
open Go.RowKit Plain

theorem tensorOk_no1 {r : Rg} {ls ds xs : List Int} (h : ringOk r = false) : tensorOk r ls ds xs = false := by simp [tensorOk, h]
theorem tensorOk_no2 {r : Rg} {ls ds xs : List Int} (h : tsize ls ds = -1) : tensorOk r ls ds xs = false := by simp [tensorOk, h]
theorem tensorOk_no3 {r : Rg} {ls ds xs : List Int} (h : ¬ (xs.length : Int) = tsize ls ds * width r) : tensorOk r ls ds xs = false := by simp [tensorOk, h]
theorem tensorOk_yes {r : Rg} {ls ds xs : List Int} (h : ringOk r = true) (h1 : tsize ls ds ≠ -1) (h2 : (xs.length : Int) = tsize ls ds * width r) : tensorOk r ls ds xs = fitsB r xs := by simp [tensorOk, h, h1, h2]

section
variable {W : World} {k p n : Int} {A0 : Option Addr} {n0 c0 : Nat} {A1 : Option Addr} {n1 c1 : Nat} {A2 : Option Addr} {n2 c2 : Nat} {t : Ten}

set_option maxHeartbeats 1600000 in
theorem iTensorOk_c (_ : I64 k) (_ : I64 p) (_ : I64 n) (h : TnOk W A0 n0 c0 A1 n1 c1 A2 n2 c2 t) :
    Calls Tryd.prog 18 #[.agg #[.int .i64 k, .int .i64 p, .int .i64 n], .agg #[.slice A0 n0 c0, .slice A1 n1 c1, .slice A2 n2 c2]] W (RetV W (.bool (tensorOk ⟨k, p, n⟩ t.labels t.dims t.data))) := by
  have st0 := (Step.alloc W (.cells #[.int .i64 k, .int .i64 p, .int .i64 n] 29)).trans (Step.alloc (W.alloc (.cells #[.int .i64 k, .int .i64 p, .int .i64 n] 29)) (.cells #[.slice A0 n0 c0, .slice A1 n1 c1, .slice A2 n2 c2] 31))
  have hl2 := Lib.hid h.x.at_.len
  have hx2 := h.x.len
  go_enter Tryd.func18, Tryd.ntmps18
  go_wp2_with fail
  refine (iRingOk_c k p n _).mono ?_
  rintro e w1 ⟨rfl, st1⟩
  have hs1 : W.heap.size + 2 ≤ w1.heap.size := by have := Below.size st1; simpa using this
  obtain ⟨hc1, _⟩ := bcell (Below.mono st1 (B' := W.heap.size + 2) (by simp))
  rcases Bool.eq_false_or_eq_true (ringOk ⟨k, p, n⟩) with hr | hr
  case inr =>
    have HE := Lib.hid (tensorOk_no1 (ls := t.labels) (ds := t.dims) (xs := t.data) hr)
    rw [hr]
    clear hr
    go_wp2_with fail
    go_ret
    exact ⟨ret_bool HE.out.symm, st0.trans st1⟩
  have HR := Lib.hid hr
  rw [hr]
  clear hr
  go_wp2_with fail
  refine (iTensorSize_c ((h.step st0).step st1)).mono ?_
  rintro e w2 ⟨rfl, st2⟩
  have hs2 : w1.heap.size ≤ w2.heap.size := Below.size st2
  obtain ⟨hc2, _⟩ := bcell (Below.mono st2 (B' := W.heap.size + 2) (by omega))
  have m0 : w2.cell? ⟨W.heap.size, 0, none⟩ = some (.int .i64 k) := by rw [hc2 _ _ (by omega), hc1 _ _ (by omega)]; simp
  have m1 : w2.cell? ⟨W.heap.size, 1, none⟩ = some (.int .i64 p) := by rw [hc2 _ _ (by omega), hc1 _ _ (by omega)]; simp
  have m2 : w2.cell? ⟨W.heap.size, 2, none⟩ = some (.int .i64 n) := by rw [hc2 _ _ (by omega), hc1 _ _ (by omega)]; simp
  have m3 : w2.cell? ⟨W.heap.size + 1, 2, none⟩ = some (.slice A2 n2 c2) := by rw [hc2 _ _ (by omega), hc1 _ _ (by omega)]; simp
  clear hc1 hc2
  have st02 : Step W w2 := (st0.trans st1).trans st2
  have hx := ((h.x.step st0).step st1).step st2
  clear h st0 st1 st2 hs1
  by_cases hts : tsize t.labels t.dims = -1
  · have HE := Lib.hid (tensorOk_no2 (r := ⟨k, p, n⟩) (xs := t.data) hts)
    rw [hts]
    clear hts
    go_wp2_with fail
    go_quiet (fail)
    go_wp2_with fail
    go_ret
    exact ⟨ret_bool HE.out.symm, st02.trans (below_drewN (Below.refl _ _) _)⟩
  have hbt : (tsize t.labels t.dims == -1) = false := by simpa using hts
  have hbt2 : (tsize t.labels t.dims != -1) = true := by simpa using hts
  have HT := Lib.hid hts
  rcases tsize_cases t.labels t.dims with hs | ⟨_, hp, hs, hp1⟩
  · exact absurd hs hts
  rw [← hs] at hp hp1
  obtain ⟨b1, b2⟩ := width_bd HR.out
  have hw1 : 1 ≤ tsize t.labels t.dims * width ⟨k, p, n⟩ := by have := Int.mul_pos (a := tsize t.labels t.dims) (b := width ⟨k, p, n⟩) (by omega) (by omega); omega
  have hw2 : tsize t.labels t.dims * width ⟨k, p, n⟩ ≤ 24576 := by have := Int.mul_le_mul (a := tsize t.labels t.dims) (b := width ⟨k, p, n⟩) (c := 4096) (d := 6) hp b2 (by omega) (by omega); omega
  clear hs hts
  by_cases hw : (n2 : Int) = tsize t.labels t.dims * width ⟨k, p, n⟩
  · have hb : ((n2 : Int) == tsize t.labels t.dims * width ⟨k, p, n⟩) = true := by simpa using hw
    have HE := Lib.hid (tensorOk_yes HR.out HT.out (by rw [hl2.out]; exact hw))
    clear hw
    have hwr : IntKind.i64.wrap (tsize t.labels t.dims * width ⟨k, p, n⟩) = tsize t.labels t.dims * width ⟨k, p, n⟩ := IntWalk.i64_in _ (by omega)
    generalize tsize t.labels t.dims = s at *
    go_wp2_with fail
    refine wp_region_held_drew (S := (fun W' => W'.cell? ⟨W.heap.size, 0, none⟩ = some (.int .i64 k) ∧ W'.cell? ⟨W.heap.size, 1, none⟩ = some (.int .i64 p) ∧ W'.cell? ⟨W.heap.size, 2, none⟩ = some (.int .i64 n) ∧ W'.cell? ⟨W.heap.size + 1, 2, none⟩ = some (.slice A2 n2 c2))) (by kernel_rfl) ?_ (fun hHeld => ?_)
    · exact ⟨m0, m1, m2, m3⟩
    refine takeL (fuel := 18) (v := ?_) 0 rfl (by kernel_rfl) (by kernel_rfl) (by kernel_rfl) (fun _ _ _ h => h) (by rfl) ?_ hHeld ?_
    rotate_left
    · intro w hSw; (try dsimp only at hSw); (first | (go_simp; done) | (go_simp; with_reducible rfl))
    simp only [Act.put, List.setIfInBounds_toArray, List.set_cons_zero, List.set_cons_succ]
    refine takeL (fuel := 17) (v := ?_) 1 rfl (by kernel_rfl) (by kernel_rfl) (by kernel_rfl) (fun _ _ _ h => h) (by rfl) ?_ hHeld ?_
    rotate_left
    · intro w hSw; (try dsimp only at hSw); (first | (go_simp; done) | (go_simp; with_reducible rfl))
    simp only [Act.put, List.setIfInBounds_toArray, List.set_cons_zero, List.set_cons_succ]
    refine takeL (fuel := 16) (v := ?_) 2 rfl (by kernel_rfl) (by kernel_rfl) (by kernel_rfl) (fun _ _ _ h => h) (by rfl) ?_ hHeld ?_
    rotate_left
    · intro w hSw; (try dsimp only at hSw); (first | (go_simp; done) | (go_simp; with_reducible rfl))
    simp only [Act.put, List.setIfInBounds_toArray, List.set_cons_zero, List.set_cons_succ]
    refine takeL (fuel := 15) (v := ?_) 3 rfl (by kernel_rfl) (by kernel_rfl) (by kernel_rfl) (fun _ _ _ h => h) (by rfl) ?_ hHeld ?_
    rotate_left
    · intro w hSw; (try dsimp only at hSw); (first | (go_simp; done) | (go_simp; with_reducible rfl))
    simp only [Act.put, List.setIfInBounds_toArray, List.set_cons_zero, List.set_cons_succ]
    refine takeL (fuel := 14) (v := ?_) 4 rfl (by kernel_rfl) (by kernel_rfl) (by kernel_rfl) (fun _ _ _ h => h) (by rfl) ?_ hHeld ?_
    rotate_left
    · intro w hSw; (try dsimp only at hSw); (first | (go_simp; done) | (go_simp; with_reducible rfl))
    simp only [Act.put, List.setIfInBounds_toArray, List.set_cons_zero, List.set_cons_succ]
    refine takeL (fuel := 13) (v := ?_) 5 rfl (by kernel_rfl) (by kernel_rfl) (by kernel_rfl) (fun _ _ _ h => h) (by rfl) ?_ hHeld ?_
    rotate_left
    · intro w hSw; (try dsimp only at hSw); (first | (go_simp; done) | (go_simp; with_reducible rfl))
    simp only [Act.put, List.setIfInBounds_toArray, List.set_cons_zero, List.set_cons_succ]
    refine takeL (fuel := 12) (v := ?_) 6 rfl (by kernel_rfl) (by kernel_rfl) (by kernel_rfl) (fun _ _ _ h => h) (by rfl) ?_ hHeld ?_
    rotate_left
    · intro w hSw; (try dsimp only at hSw); (first | (go_simp; done) | (go_simp; with_reducible rfl))
    simp only [Act.put, List.setIfInBounds_toArray, List.set_cons_zero, List.set_cons_succ]
    refine takeL (fuel := 11) (v := ?_) 7 rfl (by kernel_rfl) (by kernel_rfl) (by kernel_rfl) (fun _ _ _ h => h) (by rfl) ?_ hHeld ?_
    rotate_left
    · intro w hSw; (try dsimp only at hSw); (first | (go_simp; done) | (go_simp; with_reducible rfl))
    simp only [Act.put, List.setIfInBounds_toArray, List.set_cons_zero, List.set_cons_succ]
    refine callL (fuel := 10) 8 rfl (by kernel_rfl) (fun K hK => ?_)
    go_simp
    refine (rawWidth_c k p n _).mono ?_
    rintro e w3 ⟨rfl, st3⟩
    have st3' : Step _ _ := st3
    try simp only []
    refine hK.out _ _ ?_ (fun hHeld => ?_)
    · (first | exact ⟨m0, m1, m2, m3⟩ | (refine ⟨?_, ?_, ?_, ?_⟩ <;> (focus (repeat (first | assumption | refine cell_step (by assumption) ?_ | refine cell_step (Step.drew _) ?_)))))
    clear hK K
    try simp only [Act.put, List.setIfInBounds_toArray, List.set_cons_zero, List.set_cons_succ]
    refine takeL (fuel := 9) (v := ?_) 9 rfl (by kernel_rfl) (by kernel_rfl) (by kernel_rfl) (fun _ _ _ h => h) (by rfl) ?_ hHeld ?_
    rotate_left
    · intro w hSw; (try dsimp only at hSw); (first | (go_simp; done) | (go_simp; with_reducible rfl))
    simp only [Act.put, List.setIfInBounds_toArray, List.set_cons_zero, List.set_cons_succ]
    refine takeL (fuel := 8) (v := ?_) 10 rfl (by kernel_rfl) (by kernel_rfl) (by kernel_rfl) (fun _ _ _ h => h) (by rfl) ?_ hHeld ?_
    rotate_left
    · intro w hSw; (try dsimp only at hSw); (first | (go_simp; done) | (go_simp; with_reducible rfl))
    simp only [Act.put, List.setIfInBounds_toArray, List.set_cons_zero, List.set_cons_succ]
    refine takeL (fuel := 7) (v := ?_) 11 rfl (by kernel_rfl) (by kernel_rfl) (by kernel_rfl) (fun _ _ _ h => h) (by rfl) ?_ hHeld ?_
    rotate_left
    · intro w hSw; (try dsimp only at hSw); (first | (go_simp; done) | (go_simp; with_reducible rfl))
    simp only [Act.put, List.setIfInBounds_toArray, List.set_cons_zero, List.set_cons_succ]
    refine takeL (fuel := 6) (v := ?_) 12 rfl (by kernel_rfl) (by kernel_rfl) (by kernel_rfl) (fun _ _ _ h => h) (by rfl) ?_ hHeld ?_
    rotate_left
    · intro w hSw; (try dsimp only at hSw); (first | (go_simp; done) | (go_simp; with_reducible rfl))
    simp only [Act.put, List.setIfInBounds_toArray, List.set_cons_zero, List.set_cons_succ]
    refine takeL (fuel := 5) (v := ?_) 13 rfl (by kernel_rfl) (by kernel_rfl) (by kernel_rfl) (fun _ _ _ h => h) (by rfl) ?_ hHeld ?_
    rotate_left
    · intro w hSw; (try dsimp only at hSw); (first | (go_simp; done) | (go_simp; with_reducible rfl))
    simp only [Act.put, List.setIfInBounds_toArray, List.set_cons_zero, List.set_cons_succ]
    refine takeL (fuel := 4) (v := ?_) 14 rfl (by kernel_rfl) (by kernel_rfl) (by kernel_rfl) (fun _ _ _ h => h) (by rfl) ?_ hHeld ?_
    rotate_left
    · intro w hSw; (try dsimp only at hSw); (first | (go_simp; done) | (go_simp; with_reducible rfl))
    simp only [Act.put, List.setIfInBounds_toArray, List.set_cons_zero, List.set_cons_succ]
    refine takeL (fuel := 3) (v := ?_) 15 rfl (by kernel_rfl) (by kernel_rfl) (by kernel_rfl) (fun _ _ _ h => h) (by rfl) ?_ hHeld ?_
    rotate_left
    · intro w hSw; (try dsimp only at hSw); (first | (go_simp; done) | (go_simp; with_reducible rfl))
    simp only [Act.put, List.setIfInBounds_toArray, List.set_cons_zero, List.set_cons_succ]
    refine callL (fuel := 2) 16 rfl (by kernel_rfl) (fun K hK => ?_)
    go_simp
    refine (inRing_c HR.out ((hx.step (Step.drew _)).step st3')).mono ?_
    rintro e w4 ⟨rfl, st4⟩
    have st4' : Step _ _ := st4
    try simp only []
    refine hK.out _ _ ?_ (fun hHeld => ?_)
    · (first | exact ⟨m0, m1, m2, m3⟩ | (refine ⟨?_, ?_, ?_, ?_⟩ <;> (focus (repeat (first | assumption | refine cell_step (by assumption) ?_ | refine cell_step (Step.drew _) ?_)))))
    clear hK K
    try simp only [Act.put, List.setIfInBounds_toArray, List.set_cons_zero, List.set_cons_succ]
    refine takeL (fuel := 1) (v := ?_) 17 rfl (by kernel_rfl) (by kernel_rfl) (by kernel_rfl) (fun _ _ _ h => h) (by rfl) ?_ hHeld ?_
    rotate_left
    · intro w hSw; (try dsimp only at hSw); (first | (go_simp; done) | (go_simp; with_reducible rfl))
    simp only [Act.put, List.setIfInBounds_toArray, List.set_cons_zero, List.set_cons_succ]
    refine takeL (fuel := 0) (v := ?_) 18 rfl (by kernel_rfl) (by kernel_rfl) (by kernel_rfl) (fun _ _ _ h => h) (by rfl) ?_ hHeld ?_
    rotate_left
    · intro w hSw; (try dsimp only at hSw); (first | (go_simp; done) | (go_simp; with_reducible rfl))
    simp only [Act.put, List.setIfInBounds_toArray, List.set_cons_zero, List.set_cons_succ]
    refine wpAnyH_done (by kernel_rfl) ?_ _
    go_wp2_with fail
    go_ret
    exact ⟨ret_bool HE.out.symm, (st02.trans (Step.of_drew st3')).trans st4'⟩
  · have hb : ((n2 : Int) == tsize t.labels t.dims * width ⟨k, p, n⟩) = false := by simpa using hw
    have HE := Lib.hid (tensorOk_no3 (r := ⟨k, p, n⟩) (by rw [hl2.out]; exact hw))
    clear hw
    have hwr : IntKind.i64.wrap (tsize t.labels t.dims * width ⟨k, p, n⟩) = tsize t.labels t.dims * width ⟨k, p, n⟩ := IntWalk.i64_in _ (by omega)
    generalize tsize t.labels t.dims = s at *
    go_wp2_with fail
    refine wp_region_held_drew (S := (fun W' => W'.cell? ⟨W.heap.size, 0, none⟩ = some (.int .i64 k) ∧ W'.cell? ⟨W.heap.size, 1, none⟩ = some (.int .i64 p) ∧ W'.cell? ⟨W.heap.size, 2, none⟩ = some (.int .i64 n) ∧ W'.cell? ⟨W.heap.size + 1, 2, none⟩ = some (.slice A2 n2 c2))) (by kernel_rfl) ?_ (fun hHeld => ?_)
    · exact ⟨m0, m1, m2, m3⟩
    refine takeL (fuel := 18) (v := ?_) 0 rfl (by kernel_rfl) (by kernel_rfl) (by kernel_rfl) (fun _ _ _ h => h) (by rfl) ?_ hHeld ?_
    rotate_left
    · intro w hSw; (try dsimp only at hSw); (first | (go_simp; done) | (go_simp; with_reducible rfl))
    simp only [Act.put, List.setIfInBounds_toArray, List.set_cons_zero, List.set_cons_succ]
    refine takeL (fuel := 17) (v := ?_) 1 rfl (by kernel_rfl) (by kernel_rfl) (by kernel_rfl) (fun _ _ _ h => h) (by rfl) ?_ hHeld ?_
    rotate_left
    · intro w hSw; (try dsimp only at hSw); (first | (go_simp; done) | (go_simp; with_reducible rfl))
    simp only [Act.put, List.setIfInBounds_toArray, List.set_cons_zero, List.set_cons_succ]
    refine takeL (fuel := 16) (v := ?_) 2 rfl (by kernel_rfl) (by kernel_rfl) (by kernel_rfl) (fun _ _ _ h => h) (by rfl) ?_ hHeld ?_
    rotate_left
    · intro w hSw; (try dsimp only at hSw); (first | (go_simp; done) | (go_simp; with_reducible rfl))
    simp only [Act.put, List.setIfInBounds_toArray, List.set_cons_zero, List.set_cons_succ]
    refine takeL (fuel := 15) (v := ?_) 3 rfl (by kernel_rfl) (by kernel_rfl) (by kernel_rfl) (fun _ _ _ h => h) (by rfl) ?_ hHeld ?_
    rotate_left
    · intro w hSw; (try dsimp only at hSw); (first | (go_simp; done) | (go_simp; with_reducible rfl))
    simp only [Act.put, List.setIfInBounds_toArray, List.set_cons_zero, List.set_cons_succ]
    refine takeL (fuel := 14) (v := ?_) 4 rfl (by kernel_rfl) (by kernel_rfl) (by kernel_rfl) (fun _ _ _ h => h) (by rfl) ?_ hHeld ?_
    rotate_left
    · intro w hSw; (try dsimp only at hSw); (first | (go_simp; done) | (go_simp; with_reducible rfl))
    simp only [Act.put, List.setIfInBounds_toArray, List.set_cons_zero, List.set_cons_succ]
    refine takeL (fuel := 13) (v := ?_) 5 rfl (by kernel_rfl) (by kernel_rfl) (by kernel_rfl) (fun _ _ _ h => h) (by rfl) ?_ hHeld ?_
    rotate_left
    · intro w hSw; (try dsimp only at hSw); (first | (go_simp; done) | (go_simp; with_reducible rfl))
    simp only [Act.put, List.setIfInBounds_toArray, List.set_cons_zero, List.set_cons_succ]
    refine takeL (fuel := 12) (v := ?_) 6 rfl (by kernel_rfl) (by kernel_rfl) (by kernel_rfl) (fun _ _ _ h => h) (by rfl) ?_ hHeld ?_
    rotate_left
    · intro w hSw; (try dsimp only at hSw); (first | (go_simp; done) | (go_simp; with_reducible rfl))
    simp only [Act.put, List.setIfInBounds_toArray, List.set_cons_zero, List.set_cons_succ]
    refine takeL (fuel := 11) (v := ?_) 7 rfl (by kernel_rfl) (by kernel_rfl) (by kernel_rfl) (fun _ _ _ h => h) (by rfl) ?_ hHeld ?_
    rotate_left
    · intro w hSw; (try dsimp only at hSw); (first | (go_simp; done) | (go_simp; with_reducible rfl))
    simp only [Act.put, List.setIfInBounds_toArray, List.set_cons_zero, List.set_cons_succ]
    refine callL (fuel := 10) 8 rfl (by kernel_rfl) (fun K hK => ?_)
    go_simp
    refine (rawWidth_c k p n _).mono ?_
    rintro e w3 ⟨rfl, st3⟩
    have st3' : Step _ _ := st3
    try simp only []
    refine hK.out _ _ ?_ (fun hHeld => ?_)
    · (first | exact ⟨m0, m1, m2, m3⟩ | (refine ⟨?_, ?_, ?_, ?_⟩ <;> (focus (repeat (first | assumption | refine cell_step (by assumption) ?_ | refine cell_step (Step.drew _) ?_)))))
    clear hK K
    try simp only [Act.put, List.setIfInBounds_toArray, List.set_cons_zero, List.set_cons_succ]
    refine takeL (fuel := 9) (v := ?_) 9 rfl (by kernel_rfl) (by kernel_rfl) (by kernel_rfl) (fun _ _ _ h => h) (by rfl) ?_ hHeld ?_
    rotate_left
    · intro w hSw; (try dsimp only at hSw); (first | (go_simp; done) | (go_simp; with_reducible rfl))
    simp only [Act.put, List.setIfInBounds_toArray, List.set_cons_zero, List.set_cons_succ]
    refine takeL (fuel := 8) (v := ?_) 10 rfl (by kernel_rfl) (by kernel_rfl) (by kernel_rfl) (fun _ _ _ h => h) (by rfl) ?_ hHeld ?_
    rotate_left
    · intro w hSw; (try dsimp only at hSw); (first | (go_simp; done) | (go_simp; with_reducible rfl))
    simp only [Act.put, List.setIfInBounds_toArray, List.set_cons_zero, List.set_cons_succ]
    refine takeL (fuel := 7) (v := ?_) 11 rfl (by kernel_rfl) (by kernel_rfl) (by kernel_rfl) (fun _ _ _ h => h) (by rfl) ?_ hHeld ?_
    rotate_left
    · intro w hSw; (try dsimp only at hSw); (first | (go_simp; done) | (go_simp; with_reducible rfl))
    simp only [Act.put, List.setIfInBounds_toArray, List.set_cons_zero, List.set_cons_succ]
    refine takeL (fuel := 6) (v := ?_) 12 rfl (by kernel_rfl) (by kernel_rfl) (by kernel_rfl) (fun _ _ _ h => h) (by rfl) ?_ hHeld ?_
    rotate_left
    · intro w hSw; (try dsimp only at hSw); (first | (go_simp; done) | (go_simp; with_reducible rfl))
    simp only [Act.put, List.setIfInBounds_toArray, List.set_cons_zero, List.set_cons_succ]
    refine passL (fuel := 2) (by kernel_rfl) (fun _ _ _ _ _ h => h) hHeld [13, 14, 15, 16] _ _ _ (by kernel_rfl) ?_
    simp only [deadListed, deadTmps, List.getElem?_cons_succ, List.getElem?_cons_zero, Option.bind_some, List.setIfInBounds_toArray, List.set_cons_zero, List.set_cons_succ]
    refine takeL (fuel := 1) (v := ?_) 17 rfl (by kernel_rfl) (by kernel_rfl) (by kernel_rfl) (fun _ _ _ h => h) (by rfl) ?_ hHeld ?_
    rotate_left
    · intro w hSw; (try dsimp only at hSw); (first | (go_simp; done) | (go_simp; with_reducible rfl))
    simp only [Act.put, List.setIfInBounds_toArray, List.set_cons_zero, List.set_cons_succ]
    refine takeL (fuel := 0) (v := ?_) 18 rfl (by kernel_rfl) (by kernel_rfl) (by kernel_rfl) (fun _ _ _ h => h) (by rfl) ?_ hHeld ?_
    rotate_left
    · intro w hSw; (try dsimp only at hSw); (first | (go_simp; done) | (go_simp; with_reducible rfl))
    simp only [Act.put, List.setIfInBounds_toArray, List.set_cons_zero, List.set_cons_succ]
    refine wpAnyH_done (by kernel_rfl) ?_ _
    go_wp2_with fail
    go_ret
    exact ⟨ret_bool HE.out.symm, st02.trans (Step.of_drew st3')⟩
end

end Go.Proofs.YtodlbhjnmdhjiaaDoor

/-
  Contracts: TensorOk in the reference. No condition.
-/
namespace Go.Proofs.YtodlbhjnmdhjiaaDoor
open Go.RowKit Plain

section
variable {W : World} {k p n : Int} {A0 : Option Addr} {n0 c0 : Nat} {A1 : Option Addr} {n1 c1 : Nat} {A2 : Option Addr} {n2 c2 : Nat} {t : Ten}

set_option maxHeartbeats 1600000 in
theorem sTensorOk_c (_ : I64 k) (_ : I64 p) (_ : I64 n) (h : TnOk W A0 n0 c0 A1 n1 c1 A2 n2 c2 t) :
    Calls Tryd.prog 11 #[.agg #[.int .i64 k, .int .i64 p, .int .i64 n], .agg #[.slice A0 n0 c0, .slice A1 n1 c1, .slice A2 n2 c2]] W (RetV W (.bool (tensorOk ⟨k, p, n⟩ t.labels t.dims t.data))) := by
  have st0 := (Step.alloc W (.cells #[.int .i64 k, .int .i64 p, .int .i64 n] 29)).trans (Step.alloc (W.alloc (.cells #[.int .i64 k, .int .i64 p, .int .i64 n] 29)) (.cells #[.slice A0 n0 c0, .slice A1 n1 c1, .slice A2 n2 c2] 31))
  have hl2 := Lib.hid h.x.at_.len
  have hx2 := h.x.len
  go_enter Tryd.func11, Tryd.ntmps11
  go_wp2_with fail
  refine (sTensorSize_c (h.step st0)).mono ?_
  rintro e w2 ⟨rfl, st2⟩
  have hs2 : W.heap.size + 2 ≤ w2.heap.size := by have := Below.size st2; simpa using this
  obtain ⟨hc2, _⟩ := bcell (Below.mono st2 (B' := W.heap.size + 2) (by simp))
  have m0 : w2.cell? ⟨W.heap.size, 0, none⟩ = some (.int .i64 k) := by rw [hc2 _ _ (by omega)]; simp
  have m1 : w2.cell? ⟨W.heap.size, 1, none⟩ = some (.int .i64 p) := by rw [hc2 _ _ (by omega)]; simp
  have m2 : w2.cell? ⟨W.heap.size, 2, none⟩ = some (.int .i64 n) := by rw [hc2 _ _ (by omega)]; simp
  have m3 : w2.cell? ⟨W.heap.size + 1, 2, none⟩ = some (.slice A2 n2 c2) := by rw [hc2 _ _ (by omega)]; simp
  clear hc2
  have st02 : Step W w2 := st0.trans st2
  have hx := (h.x.step st0).step st2
  clear h st0 st2
  rcases Bool.eq_false_or_eq_true (ringOk ⟨k, p, n⟩) with hr | hr
  case inr =>
    have HE := Lib.hid (tensorOk_no1 (ls := t.labels) (ds := t.dims) (xs := t.data) hr)
    have HR := Lib.hid hr
    clear hr
    go_wp2_with fail
    refine wp_region_held_drew (S := (fun W' => W'.cell? ⟨W.heap.size, 0, none⟩ = some (.int .i64 k) ∧ W'.cell? ⟨W.heap.size, 1, none⟩ = some (.int .i64 p) ∧ W'.cell? ⟨W.heap.size, 2, none⟩ = some (.int .i64 n) ∧ W'.cell? ⟨W.heap.size + 1, 2, none⟩ = some (.slice A2 n2 c2))) (by kernel_rfl) ?_ (fun hHeld => ?_)
    · exact ⟨m0, m1, m2, m3⟩
    refine takeL (fuel := 16) (v := ?_) 0 rfl (by kernel_rfl) (by kernel_rfl) (by kernel_rfl) (fun _ _ _ h => h) (by rfl) ?_ hHeld ?_
    rotate_left
    · intro w hSw; (try dsimp only at hSw); (first | (go_simp; done) | (go_simp; with_reducible rfl))
    simp only [Act.put, List.setIfInBounds_toArray, List.set_cons_zero, List.set_cons_succ]
    refine callL (fuel := 15) 1 rfl (by kernel_rfl) (fun K hK => ?_)
    go_simp
    refine (sRingOk_c k p n _).mono ?_
    rintro e w3 ⟨rfl, st3⟩
    rw [HR.out]
    have st3' : Step _ _ := st3
    try simp only []
    refine hK.out _ _ ?_ (fun hHeld => ?_)
    · (first | exact ⟨m0, m1, m2, m3⟩ | (refine ⟨?_, ?_, ?_, ?_⟩ <;> (focus (repeat (first | assumption | refine cell_step (by assumption) ?_ | refine cell_step (Step.drew _) ?_)))))
    clear hK K
    try simp only [Act.put, List.setIfInBounds_toArray, List.set_cons_zero, List.set_cons_succ]
    refine takeL (fuel := 14) (v := ?_) 2 rfl (by kernel_rfl) (by kernel_rfl) (by kernel_rfl) (fun _ _ _ h => h) (by rfl) ?_ hHeld ?_
    rotate_left
    · intro w hSw; (try dsimp only at hSw); (first | (go_simp; done) | (go_simp; with_reducible rfl))
    simp only [Act.put, List.setIfInBounds_toArray, List.set_cons_zero, List.set_cons_succ]
    refine takeL (fuel := 13) (v := ?_) 3 rfl (by kernel_rfl) (by kernel_rfl) (by kernel_rfl) (fun _ _ _ h => h) (by rfl) ?_ hHeld ?_
    rotate_left
    · intro w hSw; (try dsimp only at hSw); (first | (go_simp; done) | (go_simp; with_reducible rfl))
    simp only [Act.put, List.setIfInBounds_toArray, List.set_cons_zero, List.set_cons_succ]
    refine passL (fuel := 11) (by kernel_rfl) (fun _ _ _ _ _ h => h) hHeld [4, 5] _ _ _ (by kernel_rfl) ?_
    simp only [deadListed, deadTmps, List.getElem?_cons_succ, List.getElem?_cons_zero, Option.bind_some, List.setIfInBounds_toArray, List.set_cons_zero, List.set_cons_succ]
    refine takeL (fuel := 10) (v := ?_) 6 rfl (by kernel_rfl) (by kernel_rfl) (by kernel_rfl) (fun _ _ _ h => h) (by rfl) ?_ hHeld ?_
    rotate_left
    · intro w hSw; (try dsimp only at hSw); (first | (go_simp; done) | (go_simp; with_reducible rfl))
    simp only [Act.put, List.setIfInBounds_toArray, List.set_cons_zero, List.set_cons_succ]
    refine takeL (fuel := 9) (v := ?_) 7 rfl (by kernel_rfl) (by kernel_rfl) (by kernel_rfl) (fun _ _ _ h => h) (by rfl) ?_ hHeld ?_
    rotate_left
    · intro w hSw; (try dsimp only at hSw); (first | (go_simp; done) | (go_simp; with_reducible rfl))
    simp only [Act.put, List.setIfInBounds_toArray, List.set_cons_zero, List.set_cons_succ]
    refine passL (fuel := 1) (by kernel_rfl) (fun _ _ _ _ _ h => h) hHeld [8, 9, 10, 11, 12, 13, 14, 15] _ _ _ (by kernel_rfl) ?_
    simp only [deadListed, deadTmps, List.getElem?_cons_succ, List.getElem?_cons_zero, Option.bind_some, List.setIfInBounds_toArray, List.set_cons_zero, List.set_cons_succ]
    refine takeL (fuel := 0) (v := ?_) 16 rfl (by kernel_rfl) (by kernel_rfl) (by kernel_rfl) (fun _ _ _ h => h) (by rfl) ?_ hHeld ?_
    rotate_left
    · intro w hSw; (try dsimp only at hSw); (first | (go_simp; done) | (go_simp; with_reducible rfl))
    simp only [Act.put, List.setIfInBounds_toArray, List.set_cons_zero, List.set_cons_succ]
    refine wpAnyH_done (by kernel_rfl) ?_ _
    go_wp2_with fail
    go_ret
    exact ⟨ret_bool HE.out.symm, st02.trans (Step.of_drew st3')⟩
  have HR := Lib.hid hr
  clear hr
  by_cases hts : tsize t.labels t.dims = -1
  · have HE := Lib.hid (tensorOk_no2 (r := ⟨k, p, n⟩) (xs := t.data) hts)
    rw [hts]
    clear hts
    go_wp2_with fail
    refine wp_region_held_drew (S := (fun W' => W'.cell? ⟨W.heap.size, 0, none⟩ = some (.int .i64 k) ∧ W'.cell? ⟨W.heap.size, 1, none⟩ = some (.int .i64 p) ∧ W'.cell? ⟨W.heap.size, 2, none⟩ = some (.int .i64 n) ∧ W'.cell? ⟨W.heap.size + 1, 2, none⟩ = some (.slice A2 n2 c2))) (by kernel_rfl) ?_ (fun hHeld => ?_)
    · exact ⟨m0, m1, m2, m3⟩
    refine takeL (fuel := 16) (v := ?_) 0 rfl (by kernel_rfl) (by kernel_rfl) (by kernel_rfl) (fun _ _ _ h => h) (by rfl) ?_ hHeld ?_
    rotate_left
    · intro w hSw; (try dsimp only at hSw); (first | (go_simp; done) | (go_simp; with_reducible rfl))
    simp only [Act.put, List.setIfInBounds_toArray, List.set_cons_zero, List.set_cons_succ]
    refine callL (fuel := 15) 1 rfl (by kernel_rfl) (fun K hK => ?_)
    go_simp
    refine (sRingOk_c k p n _).mono ?_
    rintro e w3 ⟨rfl, st3⟩
    rw [HR.out]
    have st3' : Step _ _ := st3
    try simp only []
    refine hK.out _ _ ?_ (fun hHeld => ?_)
    · (first | exact ⟨m0, m1, m2, m3⟩ | (refine ⟨?_, ?_, ?_, ?_⟩ <;> (focus (repeat (first | assumption | refine cell_step (by assumption) ?_ | refine cell_step (Step.drew _) ?_)))))
    clear hK K
    try simp only [Act.put, List.setIfInBounds_toArray, List.set_cons_zero, List.set_cons_succ]
    refine takeL (fuel := 14) (v := ?_) 2 rfl (by kernel_rfl) (by kernel_rfl) (by kernel_rfl) (fun _ _ _ h => h) (by rfl) ?_ hHeld ?_
    rotate_left
    · intro w hSw; (try dsimp only at hSw); (first | (go_simp; done) | (go_simp; with_reducible rfl))
    simp only [Act.put, List.setIfInBounds_toArray, List.set_cons_zero, List.set_cons_succ]
    refine takeL (fuel := 13) (v := ?_) 3 rfl (by kernel_rfl) (by kernel_rfl) (by kernel_rfl) (fun _ _ _ h => h) (by rfl) ?_ hHeld ?_
    rotate_left
    · intro w hSw; (try dsimp only at hSw); (first | (go_simp; done) | (go_simp; with_reducible rfl))
    simp only [Act.put, List.setIfInBounds_toArray, List.set_cons_zero, List.set_cons_succ]
    refine takeL (fuel := 12) (v := ?_) 4 rfl (by kernel_rfl) (by kernel_rfl) (by kernel_rfl) (fun _ _ _ h => h) (by rfl) ?_ hHeld ?_
    rotate_left
    · intro w hSw; (try dsimp only at hSw); (first | (go_simp; done) | (go_simp; with_reducible rfl))
    simp only [Act.put, List.setIfInBounds_toArray, List.set_cons_zero, List.set_cons_succ]
    refine takeL (fuel := 11) (v := ?_) 5 rfl (by kernel_rfl) (by kernel_rfl) (by kernel_rfl) (fun _ _ _ h => h) (by rfl) ?_ hHeld ?_
    rotate_left
    · intro w hSw; (try dsimp only at hSw); (first | (go_simp; done) | (go_simp; with_reducible rfl))
    simp only [Act.put, List.setIfInBounds_toArray, List.set_cons_zero, List.set_cons_succ]
    refine takeL (fuel := 10) (v := ?_) 6 rfl (by kernel_rfl) (by kernel_rfl) (by kernel_rfl) (fun _ _ _ h => h) (by rfl) ?_ hHeld ?_
    rotate_left
    · intro w hSw; (try dsimp only at hSw); (first | (go_simp; done) | (go_simp; with_reducible rfl))
    simp only [Act.put, List.setIfInBounds_toArray, List.set_cons_zero, List.set_cons_succ]
    refine takeL (fuel := 9) (v := ?_) 7 rfl (by kernel_rfl) (by kernel_rfl) (by kernel_rfl) (fun _ _ _ h => h) (by rfl) ?_ hHeld ?_
    rotate_left
    · intro w hSw; (try dsimp only at hSw); (first | (go_simp; done) | (go_simp; with_reducible rfl))
    simp only [Act.put, List.setIfInBounds_toArray, List.set_cons_zero, List.set_cons_succ]
    refine passL (fuel := 1) (by kernel_rfl) (fun _ _ _ _ _ h => h) hHeld [8, 9, 10, 11, 12, 13, 14, 15] _ _ _ (by kernel_rfl) ?_
    simp only [deadListed, deadTmps, List.getElem?_cons_succ, List.getElem?_cons_zero, Option.bind_some, List.setIfInBounds_toArray, List.set_cons_zero, List.set_cons_succ]
    refine takeL (fuel := 0) (v := ?_) 16 rfl (by kernel_rfl) (by kernel_rfl) (by kernel_rfl) (fun _ _ _ h => h) (by rfl) ?_ hHeld ?_
    rotate_left
    · intro w hSw; (try dsimp only at hSw); (first | (go_simp; done) | (go_simp; with_reducible rfl))
    simp only [Act.put, List.setIfInBounds_toArray, List.set_cons_zero, List.set_cons_succ]
    refine wpAnyH_done (by kernel_rfl) ?_ _
    go_wp2_with fail
    go_ret
    exact ⟨ret_bool HE.out.symm, st02.trans (Step.of_drew st3')⟩
  have HT := Lib.hid hts
  rcases tsize_cases t.labels t.dims with hs | ⟨_, hp, hs, hp1⟩
  · exact absurd hs hts
  rw [← hs] at hp hp1
  obtain ⟨b1, b2⟩ := width_bd HR.out
  have hw1 : 1 ≤ tsize t.labels t.dims * width ⟨k, p, n⟩ := by have := Int.mul_pos (a := tsize t.labels t.dims) (b := width ⟨k, p, n⟩) (by omega) (by omega); omega
  have hw2 : tsize t.labels t.dims * width ⟨k, p, n⟩ ≤ 24576 := by have := Int.mul_le_mul (a := tsize t.labels t.dims) (b := width ⟨k, p, n⟩) (c := 4096) (d := 6) hp b2 (by omega) (by omega); omega
  clear hs hts
  have hwr : IntKind.i64.wrap (tsize t.labels t.dims * width ⟨k, p, n⟩) = tsize t.labels t.dims * width ⟨k, p, n⟩ := IntWalk.i64_in _ (by omega)
  have hE3 := Lib.hid (fun h => @tensorOk_no3 ⟨k, p, n⟩ t.labels t.dims t.data h)
  have hE4 := Lib.hid (fun h => @tensorOk_yes ⟨k, p, n⟩ t.labels t.dims t.data HR.out HT.out h)
  generalize tsize t.labels t.dims = s at *
  have hneg : decide (s < 0) = false := decide_eq_false (by omega)
  have keyed : ∀ bb : Bool, ((n2 : Int) != s * width ⟨k, p, n⟩) = bb → True := fun _ _ => trivial
  go_wp2_with fail
  obtain ⟨bb, hbb⟩ : ∃ bb, ((n2 : Int) != s * width ⟨k, p, n⟩) = bb := ⟨_, rfl⟩
  clear keyed
  refine wp_region_held_drew (S := (fun W' => W'.cell? ⟨W.heap.size, 0, none⟩ = some (.int .i64 k) ∧ W'.cell? ⟨W.heap.size, 1, none⟩ = some (.int .i64 p) ∧ W'.cell? ⟨W.heap.size, 2, none⟩ = some (.int .i64 n) ∧ W'.cell? ⟨W.heap.size + 1, 2, none⟩ = some (.slice A2 n2 c2))) (by kernel_rfl) ?_ (fun hHeld => ?_)
  · exact ⟨m0, m1, m2, m3⟩
  refine takeL (fuel := 16) (v := ?_) 0 rfl (by kernel_rfl) (by kernel_rfl) (by kernel_rfl) (fun _ _ _ h => h) (by rfl) ?_ hHeld ?_
  rotate_left
  · intro w hSw; (try dsimp only at hSw); (first | (go_simp; done) | (go_simp; with_reducible rfl))
  simp only [Act.put, List.setIfInBounds_toArray, List.set_cons_zero, List.set_cons_succ]
  refine callL (fuel := 15) 1 rfl (by kernel_rfl) (fun K hK => ?_)
  go_simp
  refine (sRingOk_c k p n _).mono ?_
  rintro e w3 ⟨rfl, st3⟩
  rw [HR.out]
  have st3' : Step _ _ := st3
  try simp only []
  refine hK.out _ _ ?_ (fun hHeld => ?_)
  · (first | exact ⟨m0, m1, m2, m3⟩ | (refine ⟨?_, ?_, ?_, ?_⟩ <;> (focus (repeat (first | assumption | refine cell_step (by assumption) ?_ | refine cell_step (Step.drew _) ?_)))))
  clear hK K
  try simp only [Act.put, List.setIfInBounds_toArray, List.set_cons_zero, List.set_cons_succ]
  refine takeL (fuel := 14) (v := ?_) 2 rfl (by kernel_rfl) (by kernel_rfl) (by kernel_rfl) (fun _ _ _ h => h) (by rfl) ?_ hHeld ?_
  rotate_left
  · intro w hSw; (try dsimp only at hSw); (first | (go_simp; done) | (go_simp; with_reducible rfl))
  simp only [Act.put, List.setIfInBounds_toArray, List.set_cons_zero, List.set_cons_succ]
  refine takeL (fuel := 13) (v := ?_) 3 rfl (by kernel_rfl) (by kernel_rfl) (by kernel_rfl) (fun _ _ _ h => h) (by rfl) ?_ hHeld ?_
  rotate_left
  · intro w hSw; (try dsimp only at hSw); (first | (go_simp; done) | (go_simp; with_reducible rfl))
  simp only [Act.put, List.setIfInBounds_toArray, List.set_cons_zero, List.set_cons_succ]
  refine takeL (fuel := 12) (v := ?_) 4 rfl (by kernel_rfl) (by kernel_rfl) (by kernel_rfl) (fun _ _ _ h => h) (by rfl) ?_ hHeld ?_
  rotate_left
  · intro w hSw; (try dsimp only at hSw); (first | (go_simp; done) | (go_simp; with_reducible rfl))
  simp only [Act.put, List.setIfInBounds_toArray, List.set_cons_zero, List.set_cons_succ]
  refine takeL (fuel := 11) (v := ?_) 5 rfl (by kernel_rfl) (by kernel_rfl) (by kernel_rfl) (fun _ _ _ h => h) (by rfl) ?_ hHeld ?_
  rotate_left
  · intro w hSw; (try dsimp only at hSw); (first | (go_simp; done) | (go_simp; with_reducible rfl))
  simp only [Act.put, List.setIfInBounds_toArray, List.set_cons_zero, List.set_cons_succ]
  refine takeL (fuel := 10) (v := ?_) 6 rfl (by kernel_rfl) (by kernel_rfl) (by kernel_rfl) (fun _ _ _ h => h) (by rfl) ?_ hHeld ?_
  rotate_left
  · intro w hSw; (try dsimp only at hSw); (first | (go_simp; done) | (go_simp; with_reducible rfl))
  simp only [Act.put, List.setIfInBounds_toArray, List.set_cons_zero, List.set_cons_succ]
  refine takeL (fuel := 9) (v := ?_) 7 rfl (by kernel_rfl) (by kernel_rfl) (by kernel_rfl) (fun _ _ _ h => h) (by rfl) ?_ hHeld ?_
  rotate_left
  · intro w hSw; (try dsimp only at hSw); (first | (go_simp; done) | (go_simp; with_reducible rfl))
  simp only [Act.put, List.setIfInBounds_toArray, List.set_cons_zero, List.set_cons_succ]
  refine takeL (fuel := 8) (v := ?_) 8 rfl (by kernel_rfl) (by kernel_rfl) (by kernel_rfl) (fun _ _ _ h => h) (by rfl) ?_ hHeld ?_
  rotate_left
  · intro w hSw; (try dsimp only at hSw); (first | (go_simp; done) | (go_simp; with_reducible rfl))
  simp only [Act.put, List.setIfInBounds_toArray, List.set_cons_zero, List.set_cons_succ]
  refine takeL (fuel := 7) (v := ?_) 9 rfl (by kernel_rfl) (by kernel_rfl) (by kernel_rfl) (fun _ _ _ h => h) (by rfl) ?_ hHeld ?_
  rotate_left
  · intro w hSw; (try dsimp only at hSw); (first | (go_simp; done) | (go_simp; with_reducible rfl))
  simp only [Act.put, List.setIfInBounds_toArray, List.set_cons_zero, List.set_cons_succ]
  refine takeL (fuel := 6) (v := ?_) 10 rfl (by kernel_rfl) (by kernel_rfl) (by kernel_rfl) (fun _ _ _ h => h) (by rfl) ?_ hHeld ?_
  rotate_left
  · intro w hSw; (try dsimp only at hSw); (first | (go_simp; done) | (go_simp; with_reducible rfl))
  simp only [Act.put, List.setIfInBounds_toArray, List.set_cons_zero, List.set_cons_succ]
  refine takeL (fuel := 5) (v := ?_) 11 rfl (by kernel_rfl) (by kernel_rfl) (by kernel_rfl) (fun _ _ _ h => h) (by rfl) ?_ hHeld ?_
  rotate_left
  · intro w hSw; (try dsimp only at hSw); (first | (go_simp; done) | (go_simp; with_reducible rfl))
  simp only [Act.put, List.setIfInBounds_toArray, List.set_cons_zero, List.set_cons_succ]
  refine takeL (fuel := 4) (v := ?_) 12 rfl (by kernel_rfl) (by kernel_rfl) (by kernel_rfl) (fun _ _ _ h => h) (by rfl) ?_ hHeld ?_
  rotate_left
  · intro w hSw; (try dsimp only at hSw); (first | (go_simp; done) | (go_simp; with_reducible rfl))
  simp only [Act.put, List.setIfInBounds_toArray, List.set_cons_zero, List.set_cons_succ]
  refine callL (fuel := 3) 13 rfl (by kernel_rfl) (fun K hK => ?_)
  go_simp
  refine (l02Width_c k p n _).mono ?_
  rintro e w4 ⟨rfl, st4⟩
  have st4' : Step _ _ := st4
  try simp only []
  refine hK.out _ _ ?_ (fun hHeld => ?_)
  · (first | exact ⟨m0, m1, m2, m3⟩ | (refine ⟨?_, ?_, ?_, ?_⟩ <;> (focus (repeat (first | assumption | refine cell_step (by assumption) ?_ | refine cell_step (Step.drew _) ?_)))))
  clear hK K
  try simp only [Act.put, List.setIfInBounds_toArray, List.set_cons_zero, List.set_cons_succ]
  refine takeL (fuel := 2) (v := ?_) 14 rfl (by kernel_rfl) (by kernel_rfl) (by kernel_rfl) (fun _ _ _ h => h) (by rfl) ?_ hHeld ?_
  rotate_left
  · intro w hSw; (try dsimp only at hSw); (first | (go_simp; done) | (go_simp; with_reducible rfl))
  simp only [Act.put, List.setIfInBounds_toArray, List.set_cons_zero, List.set_cons_succ]
  refine takeL (fuel := 1) (v := ?_) 15 rfl (by kernel_rfl) (by kernel_rfl) (by kernel_rfl) (fun _ _ _ h => h) (by rfl) ?_ hHeld ?_
  rotate_left
  · intro w hSw; (try dsimp only at hSw); (first | (go_simp; done) | (go_simp; with_reducible rfl))
  simp only [Act.put, List.setIfInBounds_toArray, List.set_cons_zero, List.set_cons_succ]
  refine takeL (fuel := 0) (v := ?_) 16 rfl (by kernel_rfl) (by kernel_rfl) (by kernel_rfl) (fun _ _ _ h => h) (by rfl) ?_ hHeld ?_
  rotate_left
  · intro w hSw; (try dsimp only at hSw); (first | (go_simp; done) | (go_simp; with_reducible rfl))
  simp only [Act.put, List.setIfInBounds_toArray, List.set_cons_zero, List.set_cons_succ]
  refine wpAnyH_done (by kernel_rfl) ?_ _
  have st4 : Step w2 w4 := (Step.of_drew st3').trans st4'
  have hx4 := hx.step st4
  replace m0 := cell_step st4 m0
  replace m1 := cell_step st4 m1
  replace m2 := cell_step st4 m2
  replace m3 := cell_step st4 m3
  have st := st02.trans st4
  clear hx hs2 st4 st3 st3' st4' st02 hwr hneg
  rcases bb with _ | _
  case true =>
    have hE := Lib.hid (hE3.out (by rw [hl2.out]; simpa using hbb))
    clear hbb hE3 hE4
    go_wp2_with fail
    go_ret
    exact ⟨ret_bool hE.out.symm, st⟩
  have hE := Lib.hid (hE4.out (by rw [hl2.out]; simpa using hbb))
  clear hbb hE3 hE4
  obtain ⟨tp, htp⟩ : ∃ tp, tp = top ⟨k, p, n⟩ := ⟨_, rfl⟩
  have HTP := Lib.hid htp
  have b3 := top_bd HR.out
  rw [← htp] at b3
  obtain ⟨b3, b4⟩ := b3
  clear htp
  go_wp2_with fail
  go_loopw [30] (fun i wr => ∃ j : Nat, j ≤ n2 ∧ i = .int .i64 j ∧ Step w4 wr ∧ ∀ q, q < j → 0 ≤ t.data.getD q 0 ∧ t.data.getD q 0 ≤ tp) (fun i _ => n2 - (intOf i).toNat)
  case atStart => exact ⟨0, Nat.zero_le _, rfl, Below.refl _ _, fun q hq => absurd hq (by omega)⟩
  case round =>
    obtain ⟨j, hj, rfl, st1, hq⟩ := hrel
    have HQ := Lib.hid hq
    have hx1 := (hx4.step st1).at_
    replace m0 := cell_step st1 m0
    replace m1 := cell_step st1 m1
    replace m2 := cell_step st1 m2
    clear hq hx4 m3
    by_cases hlt : j < n2
    · obtain ⟨b, off, rfl, hb, hc⟩ := hx1.at_ (by omega)
      have hck := hc j hlt
      have hbad := Lib.hid (fun h => @fitsB_no ⟨k, p, n⟩ t.data j (by rw [hl2.out]; exact hlt) h)
      rw [← HTP.out] at hbad
      have hok : ∀ z, z = t.data.getD j 0 → (0 ≤ z ∧ z ≤ tp) → ∀ q, q < j + 1 → 0 ≤ t.data.getD q 0 ∧ t.data.getD q 0 ≤ tp := by
        intro z hz hzz q hq
        rcases Nat.lt_or_ge q j with h1 | h1
        · exact HQ.out q h1
        · obtain rfl : q = j := by omega
          rw [← hz]; exact hzz
      have HOK := Lib.hid hok
      clear hok
      generalize hz : t.data.getD j 0 = z at hck hbad HOK
      have hji : (j : Int) < (n2 : Int) := by omega
      clear hc hz hx1
      go_wp2_with fail
      refine (l02Top_c k p n _ HR.out).mono ?_
      rintro e w5 ⟨rfl, st5⟩
      rw [← HTP.out]
      by_cases hg : 0 ≤ z ∧ z ≤ tp
      · obtain ⟨g1, g2⟩ := hg
        go_wp2_with (go_at_call 28; refine (l01In_yes _ _ _ _ (by omega) (by omega)).mono ?_; rintro e w' ⟨rfl, rfl⟩)
        go_roundw
        case rel => exact ⟨j + 1, by omega, by go_num, st1.trans st5, HOK.out z rfl ⟨g1, g2⟩⟩
        case measure => simp [intOf]; omega
      · have hr := Lib.hid (hbad.out hg)
        have HG := Lib.hid hg
        clear hg
        go_wp2_with (go_at_call 28; refine (l01In_no _ _ _ _ HG.out).mono ?_; rintro e w' ⟨rfl, rfl⟩)
        go_ret
        exact ⟨ret_bool (by rw [hE.out, hr.out]), (st.trans st1).trans st5⟩
    · obtain rfl : j = n2 := by omega
      have hq := HQ.out
      rw [HTP.out] at hq
      have hf := Lib.hid (fitsB_yes (r := ⟨k, p, n⟩) (by rw [hl2.out]; exact hq))
      clear hq hx1
      go_wp2_with fail
      go_ret
      exact ⟨ret_bool (by rw [hE.out, hf.out]), st.trans st1⟩
end

end Go.Proofs.YtodlbhjnmdhjiaaDoor

/-
  Contracts: indices and offsets, in the program and in the reference. No condition but bounds on lengths.
-/
namespace Go.Proofs.YtodlbhjnmdhjiaaDoor
open Go.RowKit Plain

section
variable {W : World} {A : Option Addr} {n c : Nat} {ds : List Int} {A' : Option Addr} {n' c' : Nat} {is : List Int}

end

end Go.Proofs.YtodlbhjnmdhjiaaDoor

/-
  Contracts: OffsetOf and IndexAt, in the program and in the reference. No condition but bounds on lengths.
-/
namespace Go.Proofs.YtodlbhjnmdhjiaaDoor
open Go.RowKit Plain

theorem offsetOf_no1 {ls ds is : List Int} (h : tsize ls ds = -1) : offsetOf ls ds is = -1 := if_neg (fun x => x.1 h)
theorem offsetOf_no2 {ls ds is : List Int} (h : ¬ idxOk ds is) : offsetOf ls ds is = -1 := if_neg (fun x => h x.2)
theorem offsetOf_yes {ls ds is : List Int} (h : tsize ls ds ≠ -1) (h2 : idxOk ds is) : offsetOf ls ds is = offs ds is := if_pos ⟨h, h2⟩

section
variable {W : World} {A0 : Option Addr} {n0 c0 : Nat} {A1 : Option Addr} {n1 c1 : Nat} {A2 : Option Addr} {n2 c2 : Nat} {t : Ten} {A : Option Addr} {n c : Nat} {is : List Int} {x : Int}

end

end Go.Proofs.YtodlbhjnmdhjiaaDoor

/-
  Contracts: IndexAt, in the program and in the reference. No condition but bounds on lengths.
-/
namespace Go.Proofs.YtodlbhjnmdhjiaaDoor
open Go.RowKit Plain

theorem indexAt_no {ls ds : List Int} {x : Int} (h : ¬ (0 ≤ x ∧ x < tsize ls ds)) : indexAt ls ds x = [] ∧ indexAtOk ls ds x = false := ⟨if_neg h, decide_eq_false h⟩
theorem indexAt_yes {ls ds : List Int} {x : Int} (h : 0 ≤ x ∧ x < tsize ls ds) : indexAt ls ds x = digits ds x ∧ indexAtOk ls ds x = true := ⟨if_pos h, decide_eq_true h⟩

section
variable {W : World} {A0 : Option Addr} {n0 c0 : Nat} {A1 : Option Addr} {n1 c1 : Nat} {A2 : Option Addr} {n2 c2 : Nat} {t : Ten} {x : Int}

theorem szIndexAt {t : Ten} {x : Int} (hs : TnSz 1048576 t) (_hx : I64 x) : (indexAt t.labels t.dims x).length ≤ 268435456 := by
  unfold indexAt
  split
  · rw [digits_len]; have := hs.d.len; omega
  · simp
end

end Go.Proofs.YtodlbhjnmdhjiaaDoor
