/-
  Contracts of the laws' own helpers on tensors: copy, comparison, marking. No condition but bounds on lengths.
-/
import Derived.Test.YtmgifmgdfldheaaLawA
namespace Go.Proofs.Ytmgifmgdfldheaa
open Go.RowKit

set_option maxHeartbeats 800000 in
theorem toTensor_any (A0 : Option Addr) (n0 c0 : Nat) (A1 : Option Addr) (n1 c1 : Nat) (A2 : Option Addr) (n2 c2 : Nat) (t : Ten) (w : World) (h : TenAt w w.heap.size A0 n0 A1 n1 A2 n2 t)
    (k0 : n0 ≤ 1048576) (k1 : n1 ≤ 1048576) (k2 : n2 ≤ 1048576) :
    Calls Try.prog 17 #[.agg #[.slice A0 n0 c0, .slice A1 n1 c1, .slice A2 n2 c2]] w (RetT w t) := by
  go_enter Try.func17, Try.ntmps17
  go_wp2_with fail
  have hb0 : Below w.heap.size w (((w.alloc (.cells #[.slice A0 n0 c0, .slice A1 n1 c1, .slice A2 n2 c2] 24)).alloc (.cells #[.slice none 0 0, .slice none 0 0, .slice none 0 0] 27)).alloc (.cells #[.slice none 0 0, .slice none 0 0, .slice none 0 0] 27)) :=
    (((Below.refl _ _).alloc (Nat.le_refl _) _).alloc (by simp) _).alloc (by simp; omega) _
  refine (toIntS_any _ _ _ t.labels _ ((h.l.below hb0 (Nat.le_refl _)).mono (by simp; omega)) k0).mono ?_
  rintro e w1 ⟨B0, d0, rfl, own0, hb1⟩
  have hz1 : w.heap.size + 3 ≤ w1.heap.size := by have := hb1.size; simpa using this
  have hB1 : Below w.heap.size w w1 := hb0.trans (hb1.mono (by simp; omega))
  obtain ⟨hc1, hf1⟩ := bcell (hb1.mono (B' := w.heap.size + 3) (by simp))
  replace own0 := own0.mono (lo' := w.heap.size + 3) (by simp) (Nat.le_refl _)
  clear hb1 hb0
  go_wp2_with fail
  have hB1' := hB1.setCell (p := ⟨w.heap.size + 1 + 1, 0, none⟩) (by simp; omega) (.slice B0 t.labels.length d0)
  have hs1 : (w1.setCell ⟨w.heap.size + 1 + 1, 0, none⟩ (.slice B0 t.labels.length d0)).heap.size = w1.heap.size := by simp [World.setCell]
  refine (toIntS_any _ _ _ t.dims _ ((h.d.below hB1' (Nat.le_refl _)).mono (by rw [hs1]; omega)) k1).mono ?_
  rintro e w2 ⟨B1, d1, rfl, own1, hb2⟩
  rw [hs1] at own1 hb2
  have hz2 : w1.heap.size ≤ w2.heap.size := by have := hb2.size; rwa [hs1] at this
  have hB2 : Below w.heap.size w w2 := hB1'.trans (hb2.mono (by omega))
  replace own0 := (own0.far (g := w.heap.size + 1 + 1) (j := 0) _ (by omega)).below hb2 (Nat.le_refl _)
  obtain ⟨hc2, hf2⟩ := bcell (hb2.mono (B' := w.heap.size + 3) (by omega))
  clear hb2 hB1 hB1' hs1
  go_wp2_with fail
  have hB2' := hB2.setCell (p := ⟨w.heap.size + 1 + 1, 1, none⟩) (by simp; omega) (.slice B1 t.dims.length d1)
  have hs2 : (w2.setCell ⟨w.heap.size + 1 + 1, 1, none⟩ (.slice B1 t.dims.length d1)).heap.size = w2.heap.size := by simp [World.setCell]
  refine (toIntS_any _ _ _ t.data _ ((h.x.below hB2' (Nat.le_refl _)).mono (by rw [hs2]; omega)) k2).mono ?_
  rintro e w3 ⟨B2, d2, rfl, own2, hb3⟩
  rw [hs2] at own2 hb3
  have hz3 : w2.heap.size ≤ w3.heap.size := by have := hb3.size; rwa [hs2] at this
  have hB3 : Below w.heap.size w w3 := hB2'.trans (hb3.mono (by omega))
  replace own0 := (own0.far (g := w.heap.size + 1 + 1) (j := 1) _ (by omega)).below hb3 (by omega)
  replace own1 := (own1.far (g := w.heap.size + 1 + 1) (j := 1) _ (by omega)).below hb3 (Nat.le_refl _)
  obtain ⟨hc3, hf3⟩ := bcell (hb3.mono (B' := w.heap.size + 3) (by omega))
  clear hb3 hB2 hB2' hs2
  go_wp2_with fail
  refine bodyPost_ret (v := .agg #[.slice B0 t.labels.length d0, .slice B1 t.dims.length d1, .slice B2 t.data.length d2]) (by simp [results, Try.results17, go_sem, hc3, hc2, hc1]) rfl ?_
  have hsz : ((((w3.setCell ⟨w.heap.size + 1 + 1, 2, none⟩ (.slice B2 t.data.length d2)).setCell ⟨w.heap.size + 1, 0, none⟩ (.slice B0 t.labels.length d0)).setCell ⟨w.heap.size + 1, 1, none⟩ (.slice B1 t.dims.length d1)).setCell ⟨w.heap.size + 1, 2, none⟩ (.slice B2 t.data.length d2)).heap.size = w3.heap.size := by simp only [size_setCell]
  have own : OwnT w3 (w.heap.size + 3) w3.heap.size B0 t.labels.length d0 B1 t.dims.length d1 B2 t.data.length d2 t :=
    ⟨own0.mono (Nat.le_refl _) (by omega), own1.mono (by omega) (by omega), own2.mono (by omega) (Nat.le_refl _), own0.apart own1 (Nat.le_refl _), own0.apart own2 (by omega), own1.apart own2 (Nat.le_refl _)⟩
  refine ⟨B0, d0, B1, d1, B2, d2, rfl, ?_, ?_⟩
  · rw [hsz]
    exact ((((own.far _ (by omega)).far _ (by omega)).far _ (by omega)).far _ (by omega)).mono (by omega) (Nat.le_refl _)
  · exact (((hB3.setCell (p := ⟨w.heap.size + 1 + 1, 2, none⟩) (by simp; omega) _).setCell (p := ⟨w.heap.size + 1, 0, none⟩) (by simp) _).setCell (p := ⟨w.heap.size + 1, 1, none⟩) (by simp) _).setCell (p := ⟨w.heap.size + 1, 2, none⟩) (by simp) _

/-- Two tensors that read the same compare equal. -/
theorem eqTensor_same (A0 : Option Addr) (n0 c0 : Nat) (A1 : Option Addr) (n1 c1 : Nat) (A2 : Option Addr) (n2 c2 : Nat) (A0' : Option Addr) (n0' c0' : Nat) (A1' : Option Addr) (n1' c1' : Nat) (A2' : Option Addr) (n2' c2' : Nat) (t : Ten) (w : World)
    (h : TenAt w w.heap.size A0 n0 A1 n1 A2 n2 t) (h' : TenAt w w.heap.size A0' n0' A1' n1' A2' n2' t) (k0 : n0 ≤ 1099511627776) (k1 : n1 ≤ 1099511627776) (k2 : n2 ≤ 1099511627776) :
    Calls Try.prog 19 #[.agg #[.slice A0 n0 c0, .slice A1 n1 c1, .slice A2 n2 c2], .agg #[.slice A0' n0' c0', .slice A1' n1' c1', .slice A2' n2' c2']] w (RetV w (.bool true)) := by
  go_enter Try.func19, Try.ntmps19
  go_wp2_with fail
  have hb0 : Below w.heap.size w ((w.alloc (.cells #[.slice A0 n0 c0, .slice A1 n1 c1, .slice A2 n2 c2] 27)).alloc (.cells #[.slice A0' n0' c0', .slice A1' n1' c1', .slice A2' n2' c2'] 27)) :=
    ((Below.refl _ _).alloc (Nat.le_refl _) _).alloc (by simp) _
  refine (eqIntS_same _ _ _ _ _ _ t.labels _ ((h.l.below hb0 (Nat.le_refl _)).mono (by simp; omega)) ((h'.l.below hb0 (Nat.le_refl _)).mono (by simp; omega)) k0).mono ?_
  rintro e w1 ⟨rfl, hb1⟩
  have hz1 : w.heap.size + 2 ≤ w1.heap.size := by have := hb1.size; simpa using this
  have hB1 : Below w.heap.size w w1 := hb0.trans (hb1.mono (by simp; omega))
  obtain ⟨hc1, hf1⟩ := bcell (hb1.mono (B' := w.heap.size + 2) (by simp))
  clear hb1 hb0
  go_wp2_with fail
  refine (eqIntS_same _ _ _ _ _ _ t.dims _ ((h.d.below hB1 (Nat.le_refl _)).mono (by omega)) ((h'.d.below hB1 (Nat.le_refl _)).mono (by omega)) k1).mono ?_
  rintro e w2 ⟨rfl, hb2⟩
  have hz2 : w1.heap.size ≤ w2.heap.size := hb2.size
  have hB2 : Below w.heap.size w w2 := hB1.trans (hb2.mono (by omega))
  obtain ⟨hc2, hf2⟩ := bcell (hb2.mono (B' := w.heap.size + 2) (by omega))
  clear hb2
  go_wp2_with fail
  refine (eqIntS_same _ _ _ _ _ _ t.data _ ((h.x.below hB2 (Nat.le_refl _)).mono (by omega)) ((h'.x.below hB2 (Nat.le_refl _)).mono (by omega)) k2).mono ?_
  rintro e w3 ⟨rfl, hb3⟩
  have hB3 : Below w.heap.size w w3 := hB2.trans (hb3.mono (by omega))
  go_wp2_with fail
  go_ret
  exact ⟨rfl, hB3⟩

/-- The marks that a tensor bears. -/
def uptoT (k : Int) (n0 n1 n2 : Nat) : Ten := ⟨upto k n0, upto (k + n0) n1, upto (k + n0 + n1) n2⟩

theorem markTensor_any (A0 : Option Addr) (n0 c0 : Nat) (A1 : Option Addr) (n1 c1 : Nat) (A2 : Option Addr) (n2 c2 : Nat) (k : Int) (t : Ten) (lo hi : Nat) (w : World)
    (h : OwnT w lo hi A0 n0 c0 A1 n1 c1 A2 n2 c2 t) (k0 : n0 ≤ 268435456) (k1 : n1 ≤ 268435456) (k2 : n2 ≤ 268435456) (hk0 : 0 ≤ k) (hk1 : k ≤ 268435456) :
    Calls Try.prog 26 #[.agg #[.slice A0 n0 c0, .slice A1 n1 c1, .slice A2 n2 c2], .int .i64 k] w fun e w' => e = .returned (.int .i64 (k + n0 + n1 + n2)) ∧
      OwnT w' lo hi A0 n0 c0 A1 n1 c1 A2 n2 c2 (uptoT k n0 n1 n2) ∧ Only (inT A0 A1 A2) w w' := by
  have hbox : ¬ inT A0 A1 A2 w.heap.size := fun x => by have := h.inT_lt x; omega
  go_enter Try.func26, Try.ntmps26
  go_wp2_with fail
  have hO0 : Only (inT A0 A1 A2) w (w.alloc (.cells #[.slice A0 n0 c0, .slice A1 n1 c1, .slice A2 n2 c2] 27)) := Only.old ((Below.refl _ _).alloc (Nat.le_refl _) _) _
  have hbW : Below w.heap.size w (w.alloc (.cells #[.slice A0 n0 c0, .slice A1 n1 c1, .slice A2 n2 c2] 27)) := (Below.refl _ _).alloc (Nat.le_refl _) _
  have h1 := h.old hbW
  refine (markIntS_any _ _ _ k t.labels lo hi _ h1.l (by omega) hk0 (by omega)).mono ?_
  rintro e w1 ⟨rfl, l1, g1⟩
  have hz1 : w.heap.size < w1.heap.size := by have := g1.size; simp at this; omega
  have hO1 := hO0.trans ((Only.of_grown g1).mono (S' := inT A0 A1 A2) (fun k _ e => .inl e))
  have d1 := h1.d.grown g1 (fun a e => h.ld.symm.ne e)
  have x1 := h1.x.grown g1 (fun a e => h.lx.symm.ne e)
  obtain ⟨hc1, hf1⟩ := (Only.of_grown g1).cells (b := w.heap.size) (by simp) (fun e => hbox (.inl e))
  clear hbW h1 g1 hO0
  go_wp2_with fail
  refine (markIntS_any _ _ _ (k + n0) t.dims lo hi _ d1 (by omega) (by omega) (by omega)).mono ?_
  rintro e w2 ⟨rfl, d2, g2⟩
  have hO2 := hO1.trans ((Only.of_grown g2).mono (S' := inT A0 A1 A2) (fun k _ e => .inr (.inl e)))
  have l2 := l1.grown g2 (fun a e => h.ld.ne e)
  have x2 := x1.grown g2 (fun a e => h.dx.symm.ne e)
  obtain ⟨hc2, hf2⟩ := (Only.of_grown g2).cells (b := w.heap.size) hz1 (fun e => hbox (.inr (.inl e)))
  clear g2 l1 x1
  go_wp2_with fail
  refine (markIntS_any _ _ _ (k + n0 + n1) t.data lo hi _ x2 (by omega) (by omega) (by omega)).mono ?_
  rintro e w3 ⟨rfl, x3, g3⟩
  have hO3 := hO2.trans ((Only.of_grown g3).mono (S' := inT A0 A1 A2) (fun k _ e => .inr (.inr e)))
  have l3 := l2.grown g3 (fun a e => h.lx.ne e)
  have d3 := d2.grown g3 (fun a e => h.dx.ne e)
  go_wp2_with fail
  go_ret
  exact ⟨rfl, ⟨l3, d3, x3, h.ld, h.lx, h.dx⟩, hO3⟩

/-- A tensor that was marked is found marked. -/
theorem heldTensor_same (A0 : Option Addr) (n0 c0 : Nat) (A1 : Option Addr) (n1 c1 : Nat) (A2 : Option Addr) (n2 c2 : Nat) (k : Int) (w : World)
    (h : TenAt w w.heap.size A0 n0 A1 n1 A2 n2 (uptoT k n0 n1 n2)) (k0 : n0 ≤ 268435456) (k1 : n1 ≤ 268435456) (k2 : n2 ≤ 268435456) (hk0 : 0 ≤ k) (hk1 : k ≤ 268435456) :
    Calls Try.prog 38 #[.agg #[.slice A0 n0 c0, .slice A1 n1 c1, .slice A2 n2 c2], .int .i64 k] w (RetV w (.int .i64 (k + n0 + n1 + n2))) := by
  go_enter Try.func38, Try.ntmps38
  go_wp2_with fail
  have hb0 : Below w.heap.size w (w.alloc (.cells #[.slice A0 n0 c0, .slice A1 n1 c1, .slice A2 n2 c2] 27)) := (Below.refl _ _).alloc (Nat.le_refl _) _
  refine (heldIntS_same _ _ _ k _ ((h.l.below hb0 (Nat.le_refl _)).mono (by simp)) (by omega) hk0 (by omega)).mono ?_
  rintro e w1 ⟨rfl, hb1⟩
  have hz1 : w.heap.size + 1 ≤ w1.heap.size := by have := hb1.size; simpa using this
  have hB1 : Below w.heap.size w w1 := hb0.trans (hb1.mono (by simp))
  obtain ⟨hc1, hf1⟩ := bcell (hb1.mono (B' := w.heap.size + 1) (by simp))
  clear hb1 hb0
  go_wp2_with fail
  refine (heldIntS_same _ _ _ (k + n0) _ ((h.d.below hB1 (Nat.le_refl _)).mono (by omega)) (by omega) (by omega) (by omega)).mono ?_
  rintro e w2 ⟨rfl, hb2⟩
  have hz2 : w1.heap.size ≤ w2.heap.size := hb2.size
  have hB2 : Below w.heap.size w w2 := hB1.trans (hb2.mono (by omega))
  obtain ⟨hc2, hf2⟩ := bcell (hb2.mono (B' := w.heap.size + 1) (by omega))
  clear hb2
  go_wp2_with fail
  refine (heldIntS_same _ _ _ (k + n0 + n1) _ ((h.x.below hB2 (Nat.le_refl _)).mono (by omega)) (by omega) (by omega) (by omega)).mono ?_
  rintro e w3 ⟨rfl, hb3⟩
  have hB3 : Below w.heap.size w w3 := hB2.trans (hb3.mono (by omega))
  go_wp2_with fail
  go_ret
  exact ⟨rfl, hB3⟩

theorem toRing_any (k p n : Int) (w : World) : Calls Try.prog 32 #[.agg #[.int .i64 k, .int .i64 p, .int .i64 n]] w (RetV w (.agg #[.int .i64 k, .int .i64 p, .int .i64 n])) := by
  go_enter Try.func32, Try.ntmps32
  go_wp2_with fail
  exact bodyPost_ret (v := .agg #[.int .i64 k, .int .i64 p, .int .i64 n]) (by simp [results, Try.results32, go_sem]) rfl ⟨rfl, (((Below.refl _ _).alloc (Nat.le_refl _) _).alloc (by simp) _).alloc (by simp; omega) _⟩

end Go.Proofs.Ytmgifmgdfldheaa
