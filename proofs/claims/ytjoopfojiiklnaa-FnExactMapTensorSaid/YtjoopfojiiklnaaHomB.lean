/-
  Contracts: images of elements by a homomorphism. No condition.
-/
import Derived.Test.YtjoopfojiiklnaaHomA
namespace Go.Proofs.Ytjoopfojiiklnaa
open Go.RowKit Go.Lift Plain
set_option linter.unusedSimpArgs false
set_option linter.unusedVariables false
set_option maxRecDepth 100000

def bitE (b : Bool) : List Int := [if b then 1 else 0]
def bitX (x a : Int) : Int := IntKind.i64.wrap (((BitVec.ofInt 64 (x.fdiv (2 ^ (min a.toNat 64))) &&& 1#64).toNat : Nat) : Int)
def hornE (p a : Int) (x : List Int) : Nat → Int
  | 0 => 0
  | k + 1 => (hornE p a x k * a + x.getD (3 - k) 0).tmod p
/-- The image of an element. -/
def homE (kf pf kt pt nt k a : Int) (x : List Int) : List Int :=
  if k = 2 then bitE (if kf = 3 then decide (x.getD 0 0 > 0) else x.getD 0 0 == 0)
  else if k = 3 then bitE (bitX (x.getD 0 0) a == 1)
  else if k = 4 then bitE (decide (x.getD 0 0 ≥ a))
  else if k = 5 then [x.getD 0 0]
  else if k = 6 then [hornE pf a x 4]
  else if k = 7 then (if kf = 7 then x.take nt.toNat else if kf = 6 then [andI (x.getD 0 0) (top ⟨kt, pt, nt⟩)] else [min (x.getD 0 0) pt])
  else if k = 8 then (if x.getD 0 0 = 1 then [if kt = 4 then 0 else top ⟨kt, pt, nt⟩] else zeroE kt pt 1)
  else x
structure HomIs (kf pf nf kt pt nt k a : Int) : Prop where
  f : ringOk ⟨kf, pf, nf⟩ = true
  t : ringOk ⟨kt, pt, nt⟩ = true
  cs : (k = 1) ∨ (k = 2 ∧ (kf = 3 ∨ kf = 4)) ∨ (k = 3 ∧ kf = 6 ∧ 0 ≤ a ∧ a < nf) ∨ (k = 4 ∧ kf = 5) ∨ (k = 5 ∧ kf = 7) ∨ (k = 6 ∧ kf = 8 ∧ 1 ≤ a ∧ a ≤ pf - 1) ∨
    (k = 7 ∧ kt = kf ∧ (kf = 3 ∨ kf = 4 ∨ kf = 5 ∨ kf = 7 ∧ nt ≤ nf ∨ kf = 6)) ∨ (k = 8 ∧ kf = 1 ∧ (kt = 4 ∨ kt = 5 ∨ kt = 6))
theorem homOk_is {kf pf nf kt pt nt k a : Int} (h : homOk kf pf nf kt pt nt k a = true) : HomIs kf pf nf kt pt nt k a := by
  simp only [homOk, Bool.and_eq_true] at h
  obtain ⟨⟨h1, h2⟩, h3⟩ := h
  refine ⟨h1, h2, ?_⟩
  unfold homB at h3
  split at h3
  · exact .inl (by assumption)
  split at h3
  · simp only [Bool.and_eq_true, Bool.or_eq_true, beq_iff_eq] at h3; exact .inr (.inl ⟨by assumption, h3.1.1⟩)
  split at h3
  · simp only [Bool.and_eq_true, beq_iff_eq, decide_eq_true_eq] at h3; exact .inr (.inr (.inl ⟨by assumption, h3.1.1.1, h3.1.2, h3.2⟩))
  split at h3
  · simp only [Bool.and_eq_true, beq_iff_eq, decide_eq_true_eq] at h3; exact .inr (.inr (.inr (.inl ⟨by assumption, h3.1.1.1⟩)))
  split at h3
  · simp only [Bool.and_eq_true, beq_iff_eq, decide_eq_true_eq] at h3; exact .inr (.inr (.inr (.inr (.inl ⟨by assumption, h3.1.1.1⟩))))
  split at h3
  · simp only [rootB, Bool.and_eq_true, beq_iff_eq, decide_eq_true_eq] at h3; exact .inr (.inr (.inr (.inr (.inr (.inl ⟨by assumption, h3.1.1.1, h3.2.1⟩)))))
  split at h3
  · simp only [cutB, Bool.and_eq_true, Bool.or_eq_true, beq_iff_eq, decide_eq_true_eq] at h3
    refine .inr (.inr (.inr (.inr (.inr (.inr (.inl ⟨by assumption, h3.2.1.symm, ?_⟩))))))
    have h4 := h3.2.2
    clear h1 h2 h3
    omega
  split at h3
  · simp only [Bool.and_eq_true, Bool.or_eq_true, beq_iff_eq] at h3
    refine .inr (.inr (.inr (.inr (.inr (.inr (.inr ⟨by assumption, h3.1.1, ?_⟩))))))
    have h4 := h3.2
    clear h1 h2 h3
    omega
  · cases h3
theorem homE_len {kf pf kt pt nt k a : Int} {x : List Int} (hx : x.length ≤ 6) : (homE kf pf kt pt nt k a x).length ≤ 6 := by
  have hz := zeroE_len kt pt 1
  unfold homE bitE
  repeat' split
  all_goals (first | (simp only [List.length_singleton]; omega) | (rw [hz]; omega) | (rw [List.length_take]; omega) | omega)
theorem bitElem_d (b : Bool) : Does Try.prog 128 [.d (.bool b)] [] (.own 0 0 1) [some ⟨1, true, iv (bitE b)⟩] := by
  (refine spec_of (by kernel_rfl) Try.func128 k_impl_bitElem (fnOk (Nat.le_of_ble_eq_true rfl) ?_); unfold C_impl_bitElem)
  (simp only [Nat.reduceSub, List.length_cons, List.length_nil, Nat.reduceAdd, ch_init1, ch_init2, ch_init3, ch_init4, ch_init5, ch_init6, ch_init7, ch_init8]; try simp only [ch_rep]); (simp only [go_sem, seval, reduceCtorEq, List.replicate])
  cases b
  · simp only [go_sem, seval, reduceCtorEq]
    (refine FnEnd.mk (Nat.le_of_ble_eq_true rfl) rfl (of_decide_eq_true rfl) ?_ ?_ <;> try simp only [go_sem, seval, reduceCtorEq])
    rfl
  · simp only [go_sem, seval, reduceCtorEq]
    (refine FnEnd.mk (Nat.le_of_ble_eq_true rfl) rfl (of_decide_eq_true rfl) ?_ ?_ <;> try simp only [go_sem, seval, reduceCtorEq])
    rfl
theorem l03Bit_d (b : Bool) : Does Try.prog 146 [.d (.bool b)] [] (.own 0 0 1) [some ⟨1, true, iv (bitE b)⟩] := by
  (refine spec_of (by kernel_rfl) Try.func146 k_spec_l03Bit (fnOk (Nat.le_of_ble_eq_true rfl) ?_); unfold C_spec_l03Bit)
  (simp only [Nat.reduceSub, List.length_cons, List.length_nil, Nat.reduceAdd, ch_init1, ch_init2, ch_init3, ch_init4, ch_init5, ch_init6, ch_init7, ch_init8]; try simp only [ch_rep]); (simp only [go_sem, seval, reduceCtorEq, List.replicate])
  cases b
  · simp only [go_sem, seval, reduceCtorEq]
    (refine FnEnd.mk (Nat.le_of_ble_eq_true rfl) rfl (of_decide_eq_true rfl) ?_ ?_ <;> try simp only [go_sem, seval, reduceCtorEq])
    rfl
  · simp only [go_sem, seval, reduceCtorEq]
    (refine FnEnd.mk (Nat.le_of_ble_eq_true rfl) rfl (of_decide_eq_true rfl) ?_ ?_ <;> try simp only [go_sem, seval, reduceCtorEq])
    rfl
theorem rawOne_d {kt pt nt : Int} (hr : ringOk ⟨kt, pt, nt⟩ = true) (hk : kt = 4 ∨ kt = 5 ∨ kt = 6) : Does Try.prog 130 [ringA kt pt nt] [] (.own 0 0 1) [some ⟨1, true, iv [if kt = 4 then 0 else top ⟨kt, pt, nt⟩]⟩] := by
  have hw : width ⟨kt, pt, nt⟩ = 1 := by simp only [width]; rw [if_neg (by omega), if_neg (by omega)]
  (refine spec_of (by kernel_rfl) Try.func130 k_impl_rawOne (fnOk (Nat.le_of_ble_eq_true rfl) ?_); unfold C_impl_rawOne)
  (simp only [Nat.reduceSub, List.length_cons, List.length_nil, Nat.reduceAdd, ch_init1, ch_init2, ch_init3, ch_init4, ch_init5, ch_init6, ch_init7, ch_init8]; try simp only [ch_rep]); (simp only [go_sem, seval, reduceCtorEq, List.replicate])
  (refine ti_call (rawWidth_d kt pt nt) ?_ ?_ ?_; (focus (simp only [go_sem, seval, reduceCtorEq, hw]; done)); (first | rfl | (focus (simp only [go_sem]; done))))
  simp (disch := omega) only [go_sem, seval, reduceCtorEq, hw]
  rcases hk with rfl | rfl | rfl
  · simp (disch := omega) only [go_sem, seval, reduceCtorEq]
    (refine FnEnd.mk (Nat.le_of_ble_eq_true rfl) rfl (of_decide_eq_true rfl) ?_ ?_ <;> try simp only [go_sem, seval, reduceCtorEq])
    rfl
  · have e : top ⟨5, pt, nt⟩ = pt := by simp [top]
    simp (disch := omega) only [go_sem, seval, reduceCtorEq, e]
    (refine FnEnd.mk (Nat.le_of_ble_eq_true rfl) rfl (of_decide_eq_true rfl) ?_ ?_ <;> try simp only [go_sem, seval, reduceCtorEq])
    rfl
  · simp (disch := omega) only [go_sem, seval, reduceCtorEq]
    (refine ti_call (rawTop_d 6 pt nt hr) ?_ ?_ ?_; (focus (simp only [go_sem, seval, reduceCtorEq]; done)); (first | rfl | (focus (simp only [go_sem]; done))))
    simp (disch := omega) only [go_sem, seval, reduceCtorEq]
    (refine FnEnd.mk (Nat.le_of_ble_eq_true rfl) rfl (of_decide_eq_true rfl) ?_ ?_ <;> try simp only [go_sem, seval, reduceCtorEq])
    rfl
theorem l02One_d {kt pt nt : Int} (hr : ringOk ⟨kt, pt, nt⟩ = true) (hk : kt = 4 ∨ kt = 5 ∨ kt = 6) : Does Try.prog 147 [ringA kt pt nt] [] (.own 0 0 1) [some ⟨1, true, iv [if kt = 4 then 0 else top ⟨kt, pt, nt⟩]⟩] := by
  have hw : width ⟨kt, pt, nt⟩ = 1 := by simp only [width]; rw [if_neg (by omega), if_neg (by omega)]
  (refine spec_of (by kernel_rfl) Try.func147 k_spec_l02One (fnOk (Nat.le_of_ble_eq_true rfl) ?_); unfold C_spec_l02One)
  (simp only [Nat.reduceSub, List.length_cons, List.length_nil, Nat.reduceAdd, ch_init1, ch_init2, ch_init3, ch_init4, ch_init5, ch_init6, ch_init7, ch_init8]; try simp only [ch_rep]); (simp only [go_sem, seval, reduceCtorEq, List.replicate])
  (refine ti_call (l02Width_d kt pt nt) ?_ ?_ ?_; (focus (simp only [go_sem, seval, reduceCtorEq, hw]; done)); (first | rfl | (focus (simp only [go_sem]; done))))
  simp (disch := omega) only [go_sem, seval, reduceCtorEq, hw]
  rcases hk with rfl | rfl | rfl
  · simp (disch := omega) only [go_sem, seval, reduceCtorEq]
    (refine FnEnd.mk (Nat.le_of_ble_eq_true rfl) rfl (of_decide_eq_true rfl) ?_ ?_ <;> try simp only [go_sem, seval, reduceCtorEq])
    rfl
  · simp (disch := omega) only [go_sem, seval, reduceCtorEq]
    (refine ti_call (l02Top_d 5 pt nt hr) ?_ ?_ ?_; (focus (simp only [go_sem, seval, reduceCtorEq]; done)); (first | rfl | (focus (simp only [go_sem]; done))))
    simp (disch := omega) only [go_sem, seval, reduceCtorEq]
    (refine FnEnd.mk (Nat.le_of_ble_eq_true rfl) rfl (of_decide_eq_true rfl) ?_ ?_ <;> try simp only [go_sem, seval, reduceCtorEq])
    rfl
  · simp (disch := omega) only [go_sem, seval, reduceCtorEq]
    (refine ti_call (l02Top_d 6 pt nt hr) ?_ ?_ ?_; (focus (simp only [go_sem, seval, reduceCtorEq]; done)); (first | rfl | (focus (simp only [go_sem]; done))))
    simp (disch := omega) only [go_sem, seval, reduceCtorEq]
    (refine FnEnd.mk (Nat.le_of_ble_eq_true rfl) rfl (of_decide_eq_true rfl) ?_ ?_ <;> try simp only [go_sem, seval, reduceCtorEq])
    rfl
/-! ### By kinds -/
theorem horn_bd {pf a : Int} {x : List Int} (hp : 2 ≤ pf ∧ pf ≤ 1000003) (ha : 1 ≤ a ∧ a ≤ pf - 1) (hf : ∀ y ∈ x, 0 ≤ y ∧ y ≤ 1000003) (hx : x.length = 4) : ∀ k, k ≤ 4 → 0 ≤ hornE pf a x k ∧ hornE pf a x k < pf
  | 0, _ => ⟨by simp [hornE], by simp [hornE]; omega⟩
  | k + 1, hk => by
    have ih := horn_bd hp ha hf hx k (by omega)
    have hm := mul_range (a := hornE pf a x k) (b := a) (A := 1000003) (B := 1000003) ⟨by omega, by omega⟩ ⟨by omega, by omega⟩
    have hy := hf (x.getD (3 - k) 0) (by rw [getD_of (show 3 - k < x.length by omega)]; exact List.getElem_mem _)
    exact tmod_lt (by omega) (by omega)
theorem rawHom1_d {kf pf nf kt pt nt a : Int} {x : List Int} {x0 : Int} (hx : x.length ≤ 6) :
    Does Try.prog 96 [ringA kf pf nf, ringA kt pt nt, homA 1 a, .d (ints x)] [] (.own 0 0 (x).length) [some ⟨1, true, iv (x)⟩] := by
  (refine spec_of (by kernel_rfl) Try.func96 k_impl_rawHom (fnOk (Nat.le_of_ble_eq_true rfl) ?_); unfold C_impl_rawHom)
  simp only [homA]
  (simp only [Nat.reduceSub, List.length_cons, List.length_nil, Nat.reduceAdd, ch_init1, ch_init2, ch_init3, ch_init4, ch_init5, ch_init6, ch_init7, ch_init8]; try simp only [ch_rep]); (simp only [go_sem, seval, reduceCtorEq, List.replicate])
  (refine ti_call (copyInts_d (xs := x) (by omega)) ?_ ?_ ?_; (focus (simp only [go_sem, seval, reduceCtorEq]; done)); (first | rfl | (focus (simp only [go_sem]; done))))
  simp only [go_sem, seval, reduceCtorEq]
  (refine FnEnd.mk (Nat.le_of_ble_eq_true rfl) rfl (of_decide_eq_true rfl) ?_ ?_ <;> try simp only [go_sem, seval, reduceCtorEq])
theorem rawHom2a_d {pf nf kt pt nt a : Int} {x : List Int} {x0 : Int} (i0 : (0 : Int) < x.length) (g0 : x[0]? = some x0) :
    Does Try.prog 96 [ringA 3 pf nf, ringA kt pt nt, homA 2 a, .d (ints x)] [] (.own 0 0 (bitE (decide (x0 > 0))).length) [some ⟨1, true, iv (bitE (decide (x0 > 0)))⟩] := by
  (refine spec_of (by kernel_rfl) Try.func96 k_impl_rawHom (fnOk (Nat.le_of_ble_eq_true rfl) ?_); unfold C_impl_rawHom)
  simp only [homA]
  (simp only [Nat.reduceSub, List.length_cons, List.length_nil, Nat.reduceAdd, ch_init1, ch_init2, ch_init3, ch_init4, ch_init5, ch_init6, ch_init7, ch_init8]; try simp only [ch_rep]); (simp only [go_sem, seval, reduceCtorEq, List.replicate])
  simp (disch := omega) only [go_sem, seval, reduceCtorEq, g0, i0]
  cases hd : decide (x0 > 0)
  · simp only [go_sem, seval, reduceCtorEq, hd]
    (refine ti_call (bitElem_d false) ?_ ?_ ?_; (focus (simp only [go_sem, seval, reduceCtorEq]; done)); (first | rfl | (focus (simp only [go_sem]; done))))
    simp only [go_sem, seval, reduceCtorEq]
    (refine FnEnd.mk (Nat.le_of_ble_eq_true rfl) rfl (of_decide_eq_true rfl) ?_ ?_ <;> try simp only [go_sem, seval, reduceCtorEq])
    rfl
  · simp only [go_sem, seval, reduceCtorEq, hd]
    (refine ti_call (bitElem_d true) ?_ ?_ ?_; (focus (simp only [go_sem, seval, reduceCtorEq]; done)); (first | rfl | (focus (simp only [go_sem]; done))))
    simp only [go_sem, seval, reduceCtorEq]
    (refine FnEnd.mk (Nat.le_of_ble_eq_true rfl) rfl (of_decide_eq_true rfl) ?_ ?_ <;> try simp only [go_sem, seval, reduceCtorEq])
    rfl
theorem rawHom2b_d {pf nf kt pt nt a : Int} {x : List Int} {x0 : Int} (i0 : (0 : Int) < x.length) (g0 : x[0]? = some x0) :
    Does Try.prog 96 [ringA 4 pf nf, ringA kt pt nt, homA 2 a, .d (ints x)] [] (.own 0 0 (bitE (x0 == 0)).length) [some ⟨1, true, iv (bitE (x0 == 0))⟩] := by
  (refine spec_of (by kernel_rfl) Try.func96 k_impl_rawHom (fnOk (Nat.le_of_ble_eq_true rfl) ?_); unfold C_impl_rawHom)
  simp only [homA]
  (simp only [Nat.reduceSub, List.length_cons, List.length_nil, Nat.reduceAdd, ch_init1, ch_init2, ch_init3, ch_init4, ch_init5, ch_init6, ch_init7, ch_init8]; try simp only [ch_rep]); (simp only [go_sem, seval, reduceCtorEq, List.replicate])
  simp (disch := omega) only [go_sem, seval, reduceCtorEq, g0, i0]
  (refine ti_call (bitElem_d (x0 == 0)) ?_ ?_ ?_; (focus (simp only [go_sem, seval, reduceCtorEq]; done)); (first | rfl | (focus (simp only [go_sem]; done))))
  simp only [go_sem, seval, reduceCtorEq]
  (refine FnEnd.mk (Nat.le_of_ble_eq_true rfl) rfl (of_decide_eq_true rfl) ?_ ?_ <;> try simp only [go_sem, seval, reduceCtorEq])
  rfl
theorem rawHom3_d {pf nf kt pt nt a : Int} {x : List Int} {x0 : Int} (i0 : (0 : Int) < x.length) (g0 : x[0]? = some x0) (ha : 0 ≤ a) :
    Does Try.prog 96 [ringA 6 pf nf, ringA kt pt nt, homA 3 a, .d (ints x)] [] (.own 0 0 (bitE (bitX x0 a == 1)).length) [some ⟨1, true, iv (bitE (bitX x0 a == 1))⟩] := by
  (refine spec_of (by kernel_rfl) Try.func96 k_impl_rawHom (fnOk (Nat.le_of_ble_eq_true rfl) ?_); unfold C_impl_rawHom)
  simp only [homA]
  (simp only [Nat.reduceSub, List.length_cons, List.length_nil, Nat.reduceAdd, ch_init1, ch_init2, ch_init3, ch_init4, ch_init5, ch_init6, ch_init7, ch_init8]; try simp only [ch_rep]); (simp only [go_sem, seval, reduceCtorEq, List.replicate])
  simp (disch := omega) only [go_sem, seval, reduceCtorEq, g0, i0]
  refine ⟨by omega, ?_⟩
  (refine ti_call (bitElem_d (bitX x0 a == 1)) ?_ ?_ ?_; (focus (simp only [go_sem, seval, reduceCtorEq, bitX]; done)); (first | rfl | (focus (simp only [go_sem]; done))))
  simp only [go_sem, seval, reduceCtorEq]
  (refine FnEnd.mk (Nat.le_of_ble_eq_true rfl) rfl (of_decide_eq_true rfl) ?_ ?_ <;> try simp only [go_sem, seval, reduceCtorEq])
  rfl
theorem rawHom4_d {pf nf kt pt nt a : Int} {x : List Int} {x0 : Int} (i0 : (0 : Int) < x.length) (g0 : x[0]? = some x0) :
    Does Try.prog 96 [ringA 5 pf nf, ringA kt pt nt, homA 4 a, .d (ints x)] [] (.own 0 0 (bitE (decide (x0 ≥ a))).length) [some ⟨1, true, iv (bitE (decide (x0 ≥ a)))⟩] := by
  (refine spec_of (by kernel_rfl) Try.func96 k_impl_rawHom (fnOk (Nat.le_of_ble_eq_true rfl) ?_); unfold C_impl_rawHom)
  simp only [homA]
  (simp only [Nat.reduceSub, List.length_cons, List.length_nil, Nat.reduceAdd, ch_init1, ch_init2, ch_init3, ch_init4, ch_init5, ch_init6, ch_init7, ch_init8]; try simp only [ch_rep]); (simp only [go_sem, seval, reduceCtorEq, List.replicate])
  simp (disch := omega) only [go_sem, seval, reduceCtorEq, g0, i0]
  (refine ti_call (bitElem_d (decide (x0 ≥ a))) ?_ ?_ ?_; (focus (simp only [go_sem, seval, reduceCtorEq]; done)); (first | rfl | (focus (simp only [go_sem]; done))))
  simp only [go_sem, seval, reduceCtorEq]
  (refine FnEnd.mk (Nat.le_of_ble_eq_true rfl) rfl (of_decide_eq_true rfl) ?_ ?_ <;> try simp only [go_sem, seval, reduceCtorEq])
  rfl
theorem rawHom5_d {pf nf kt pt nt a : Int} {x : List Int} {x0 : Int} (i0 : (0 : Int) < x.length) (g0 : x[0]? = some x0) :
    Does Try.prog 96 [ringA 7 pf nf, ringA kt pt nt, homA 5 a, .d (ints x)] [] (.own 0 0 ([x0]).length) [some ⟨1, true, iv ([x0])⟩] := by
  (refine spec_of (by kernel_rfl) Try.func96 k_impl_rawHom (fnOk (Nat.le_of_ble_eq_true rfl) ?_); unfold C_impl_rawHom)
  simp only [homA]
  (simp only [Nat.reduceSub, List.length_cons, List.length_nil, Nat.reduceAdd, ch_init1, ch_init2, ch_init3, ch_init4, ch_init5, ch_init6, ch_init7, ch_init8]; try simp only [ch_rep]); (simp only [go_sem, seval, reduceCtorEq, List.replicate])
  simp (disch := omega) only [go_sem, seval, reduceCtorEq, g0, i0]
  (refine FnEnd.mk (Nat.le_of_ble_eq_true rfl) rfl (of_decide_eq_true rfl) ?_ ?_ <;> try simp only [go_sem, seval, reduceCtorEq])
  rfl
theorem rawHom6_d {pf nf kt pt nt a : Int} {x : List Int} {x0 : Int} (hx : x.length = 4) (hp : 2 ≤ pf ∧ pf ≤ 1000003) (ha : 1 ≤ a ∧ a ≤ pf - 1) (hf : ∀ y ∈ x, 0 ≤ y ∧ y ≤ 1000003) :
    Does Try.prog 96 [ringA 8 pf nf, ringA kt pt nt, homA 6 a, .d (ints x)] [] (.own 0 0 ([hornE pf a x 4]).length) [some ⟨1, true, iv ([hornE pf a x 4])⟩] := by
  (refine spec_of (by kernel_rfl) Try.func96 k_impl_rawHom (fnOk (Nat.le_of_ble_eq_true rfl) ?_); unfold C_impl_rawHom)
  simp only [homA]
  (simp only [Nat.reduceSub, List.length_cons, List.length_nil, Nat.reduceAdd, ch_init1, ch_init2, ch_init3, ch_init4, ch_init5, ch_init6, ch_init7, ch_init8]; try simp only [ch_rep]); (simp only [go_sem, seval, reduceCtorEq, List.replicate])
  have h0 : hornE pf a x 0 = 0 := rfl
  refine wpN_lp (4) [false, false, false, false, false, false, false, false, false, false, false, false, false, false, false, false, false, false, false, false, false, false, false, false, false, false, false, false, false, false, false, false, false, false, false, false, false, false, false, false, false, false, false, false, false, false, false, false, false, false, false, false, false, false, false, false, false, false, false, false, false, false, false, false, true, true, true, true, true, true, true, true, true, true, true, true, true, true, true, true, false, false, false, false, false, false, false, false, false, false, false, false, false, false, false, false, false, false, false, false, false, false, false, false, false, false, false, false, false, false, false, false, false, false, false, false, false, false, false, false, false] (fun k => [(9, .d (.int (hornE pf a x k))), (10, .d (.int (3 - (k : Int))))]) (fun k => []) (fun _ => by (simp only [go_sem, seval, reduceCtorEq, dropF_ch, dropF_cons, dropF_nil, cut, cond_true, cond_false]); first | done | rfl) (fun _ => by (simp only [go_sem, seval, reduceCtorEq, cut]); first | done | rfl) (Nat.le_of_ble_eq_true rfl) (by first | (simp only [go_sem, seval, reduceCtorEq, dropF_ch, dropF_cons, dropF_nil, cut, cond_true, cond_false, Int.natCast_zero, Int.natCast_add, Int.natCast_one, h0, Int.sub_zero]; done) | rfl | (simp only [go_sem, seval, reduceCtorEq, dropF_ch, dropF_cons, dropF_nil, cut, cond_true, cond_false, Int.natCast_zero, Int.natCast_add, Int.natCast_one, h0, Int.sub_zero]; rfl)) (by first | (simp only [go_sem, seval, reduceCtorEq, dropF_ch, dropF_cons, dropF_nil, cut, cond_true, cond_false, Int.natCast_zero, Int.natCast_add, Int.natCast_one, h0, Int.sub_zero]; done) | rfl | (simp only [go_sem, seval, reduceCtorEq, dropF_ch, dropF_cons, dropF_nil, cut, cond_true, cond_false, Int.natCast_zero, Int.natCast_add, Int.natCast_one, h0, Int.sub_zero]; rfl)) fun k hk => ?_
  unfold L0_impl_rawHom
  have hb : ∀ k, k ≤ 4 → 0 ≤ hornE pf a x k ∧ hornE pf a x k < pf := fun k hk => horn_bd hp ha hf hx k hk
  by_cases hlt : k < 4
  · have d1 : (3 : Int) - k ≥ 0 := by omega
    have hN : ((3 : Int) - k).toNat = 3 - k := by omega
    have g : x[3 - k]? = some (x.getD (3 - k) 0) := by rw [getD_of (show 3 - k < x.length by omega)]; exact List.getElem?_eq_getElem (by omega)
    have hk1 := hb k (by omega)
    have hm := mul_range (a := hornE pf a x k) (b := a) (A := 1000003) (B := 1000003) ⟨by omega, by omega⟩ ⟨by omega, by omega⟩
    have hy := hf (x.getD (3 - k) 0) (by rw [getD_of (show 3 - k < x.length by omega)]; exact List.getElem_mem _)
    have i1 : (3 : Int) - k < x.length := by omega
    have hn : (hornE pf a x k * a + x.getD (3 - k) 0).tmod pf = hornE pf a x (k + 1) := rfl
    have h10 : (3 : Int) - k - 1 = 3 - ((k + 1 : Nat) : Int) := by omega
    generalize hA : hornE pf a x k * a = A at *
    generalize hB : x.getD (3 - k) 0 = B at *
    simp (disch := omega) only [go_sem, seval, reduceCtorEq, d1, hN, g, hA, i1, hn]
    refine ⟨by omega, ?_⟩
    (refine Next.drop [false, false, false, false, false, false, false, false, false, false, false, false, false, false, false, false, false, false, false, false, false, false, false, false, false, false, false, false, false, false, false, false, false, false, false, false, false, false, false, false, false, false, false, false, false, false, false, false, false, false, false, false, false, false, false, false, false, false, false, false, false, false, false, false, true, true, true, true, true, true, true, true, true, true, true, true, true, true, true, true, false, false, false, false, false, false, false, false, false, false, false, false, false, false, false, false, false, false, false, false, false, false, false, false, false, false, false, false, false, false, false, false, false, false, false, false, false, false, false, false, false] (by omega) (Nat.le_of_ble_eq_true rfl) ?_ ?_ <;> first | (simp only [go_sem, seval, reduceCtorEq, dropF_ch, dropF_cons, dropF_nil, cut, cond_true, cond_false, Int.natCast_zero, Int.natCast_add, Int.natCast_one, h10, hn]; done) | rfl | (simp only [go_sem, seval, reduceCtorEq, dropF_ch, dropF_cons, dropF_nil, cut, cond_true, cond_false, Int.natCast_zero, Int.natCast_add, Int.natCast_one, h10, hn]; rfl) | skip)
  · have d1 : ¬ (3 : Int) - k ≥ 0 := by omega
    obtain rfl : k = 4 := by omega
    simp (disch := omega) only [go_sem, seval, reduceCtorEq, d1]
    (refine FnEnd.mk (Nat.le_of_ble_eq_true rfl) rfl (of_decide_eq_true rfl) ?_ ?_ <;> try simp only [go_sem, seval, reduceCtorEq])
    rfl
theorem rawHom7a_d {pf nf pt nt a : Int} {x : List Int} {x0 : Int} (hx : x.length ≤ 6) (hn : 0 ≤ nt ∧ nt ≤ x.length) :
    Does Try.prog 96 [ringA 7 pf nf, ringA 7 pt nt, homA 7 a, .d (ints x)] [] (.own 0 0 (x.take nt.toNat).length) [some ⟨1, true, iv (x.take nt.toNat)⟩] := by
  (refine spec_of (by kernel_rfl) Try.func96 k_impl_rawHom (fnOk (Nat.le_of_ble_eq_true rfl) ?_); unfold C_impl_rawHom)
  simp only [homA]
  (simp only [Nat.reduceSub, List.length_cons, List.length_nil, Nat.reduceAdd, ch_init1, ch_init2, ch_init3, ch_init4, ch_init5, ch_init6, ch_init7, ch_init8]; try simp only [ch_rep]); (simp only [go_sem, seval, reduceCtorEq, List.replicate])
  obtain ⟨m, rfl⟩ : ∃ m : Nat, nt = m := ⟨nt.toNat, by omega⟩
  have hl : (x.take m).length = m := by rw [List.length_take]; omega
  simp only [Int.sub_zero, Int.toNat_natCast, hl]
  refine ⟨⟨by omega, by omega⟩, ?_⟩
  (refine ti_call (copyInts_d (xs := x.take m) (by omega)) ?_ ?_ ?_; (focus (simp only [go_sem, seval, reduceCtorEq, hl]; done)); (first | rfl | (focus (simp only [go_sem]; done))))
  simp only [go_sem, seval, reduceCtorEq, hl]
  (refine FnEnd.mk (Nat.le_of_ble_eq_true rfl) rfl (of_decide_eq_true rfl) ?_ ?_ <;> try simp only [go_sem, seval, reduceCtorEq])
theorem rawHom7b_d {pf nf pt nt a : Int} {x : List Int} {x0 : Int} (i0 : (0 : Int) < x.length) (g0 : x[0]? = some x0) (hr : ringOk ⟨6, pt, nt⟩ = true) :
    Does Try.prog 96 [ringA 6 pf nf, ringA 6 pt nt, homA 7 a, .d (ints x)] [] (.own 0 0 ([andI x0 (top ⟨6, pt, nt⟩)]).length) [some ⟨1, true, iv ([andI x0 (top ⟨6, pt, nt⟩)])⟩] := by
  (refine spec_of (by kernel_rfl) Try.func96 k_impl_rawHom (fnOk (Nat.le_of_ble_eq_true rfl) ?_); unfold C_impl_rawHom)
  simp only [homA]
  (simp only [Nat.reduceSub, List.length_cons, List.length_nil, Nat.reduceAdd, ch_init1, ch_init2, ch_init3, ch_init4, ch_init5, ch_init6, ch_init7, ch_init8]; try simp only [ch_rep]); (simp only [go_sem, seval, reduceCtorEq, List.replicate])
  simp (disch := omega) only [go_sem, seval, reduceCtorEq, g0, i0]
  (refine gi_call (rawTop_d 6 pt nt hr) ?_ ?_ ?_; (focus (simp only [go_sem, seval, reduceCtorEq]; done)); (first | rfl | (focus (simp only [go_sem]; done))))
  simp only [go_sem, seval, reduceCtorEq]
  (refine FnEnd.mk (Nat.le_of_ble_eq_true rfl) rfl (of_decide_eq_true rfl) ?_ ?_ <;> try simp only [go_sem, seval, reduceCtorEq])
  rfl
theorem rawHom7c_d {kf pf nf pt nt a : Int} {x : List Int} {x0 : Int} (i0 : (0 : Int) < x.length) (g0 : x[0]? = some x0) (h6 : (kf == 6) = false) (h7 : (kf == 7) = false) :
    Does Try.prog 96 [ringA kf pf nf, ringA kf pt nt, homA 7 a, .d (ints x)] [] (.own 0 0 ([min x0 pt]).length) [some ⟨1, true, iv ([min x0 pt])⟩] := by
  (refine spec_of (by kernel_rfl) Try.func96 k_impl_rawHom (fnOk (Nat.le_of_ble_eq_true rfl) ?_); unfold C_impl_rawHom)
  simp only [homA]
  (simp only [Nat.reduceSub, List.length_cons, List.length_nil, Nat.reduceAdd, ch_init1, ch_init2, ch_init3, ch_init4, ch_init5, ch_init6, ch_init7, ch_init8]; try simp only [ch_rep]); (simp only [go_sem, seval, reduceCtorEq, List.replicate])
  simp (disch := omega) only [go_sem, seval, reduceCtorEq, h6, h7, g0, i0]
  (refine FnEnd.mk (Nat.le_of_ble_eq_true rfl) rfl (of_decide_eq_true rfl) ?_ ?_ <;> try simp only [go_sem, seval, reduceCtorEq])
  rfl
theorem rawHom8_d {pf nf kt pt nt a : Int} {x : List Int} {x0 : Int} (i0 : (0 : Int) < x.length) (g0 : x[0]? = some x0) (hr : ringOk ⟨kt, pt, nt⟩ = true) (hk : kt = 4 ∨ kt = 5 ∨ kt = 6) :
    Does Try.prog 96 [ringA 1 pf nf, ringA kt pt nt, homA 8 a, .d (ints x)] [] (.own 0 0 (if x0 = 1 then [if kt = 4 then 0 else top ⟨kt, pt, nt⟩] else zeroE kt pt 1).length) [some ⟨1, true, iv (if x0 = 1 then [if kt = 4 then 0 else top ⟨kt, pt, nt⟩] else zeroE kt pt 1)⟩] := by
  (refine spec_of (by kernel_rfl) Try.func96 k_impl_rawHom (fnOk (Nat.le_of_ble_eq_true rfl) ?_); unfold C_impl_rawHom)
  simp only [homA]
  (simp only [Nat.reduceSub, List.length_cons, List.length_nil, Nat.reduceAdd, ch_init1, ch_init2, ch_init3, ch_init4, ch_init5, ch_init6, ch_init7, ch_init8]; try simp only [ch_rep]); (simp only [go_sem, seval, reduceCtorEq, List.replicate])
  have hw : width ⟨kt, pt, nt⟩ = (1 : Nat) := by simp only [width]; rw [if_neg (by omega), if_neg (by omega)]; rfl
  simp (disch := omega) only [go_sem, seval, reduceCtorEq, g0, i0]
  by_cases h1 : x0 = 1
  · have c1 : (x0 == 1) = true := by simp [h1]
    have e : (if x0 = 1 then [if kt = 4 then 0 else top ⟨kt, pt, nt⟩] else zeroE kt pt 1) = [if kt = 4 then 0 else top ⟨kt, pt, nt⟩] := if_pos h1
    rw [e]
    simp only [go_sem, seval, reduceCtorEq, c1]
    (refine ti_call (rawOne_d hr hk) ?_ ?_ ?_; (focus (simp only [go_sem, seval, reduceCtorEq]; done)); (first | rfl | (focus (simp only [go_sem]; done))))
    simp only [go_sem, seval, reduceCtorEq]
    (refine FnEnd.mk (Nat.le_of_ble_eq_true rfl) rfl (of_decide_eq_true rfl) ?_ ?_ <;> try simp only [go_sem, seval, reduceCtorEq])
  · have c1 : (x0 == 1) = false := by simp [h1]
    have e : (if x0 = 1 then [if kt = 4 then 0 else top ⟨kt, pt, nt⟩] else zeroE kt pt 1) = zeroE kt pt 1 := if_neg h1
    have hz := zeroE_len kt pt 1
    rw [e, hz]
    simp only [go_sem, seval, reduceCtorEq, c1]
    (refine ti_call (rawZero_d (kk := kt) (pp := pt) (nn := nt) hw (by omega)) ?_ ?_ ?_; (focus (simp only [go_sem, seval, reduceCtorEq]; done)); (first | rfl | (focus (simp only [go_sem]; done))))
    simp only [go_sem, seval, reduceCtorEq]
    (refine FnEnd.mk (Nat.le_of_ble_eq_true rfl) rfl (of_decide_eq_true rfl) ?_ ?_ <;> try simp only [go_sem, seval, reduceCtorEq])
theorem l03Map1_d {kf pf nf kt pt nt a : Int} {x : List Int} {x0 : Int} (hx : x.length ≤ 6) :
    Does Try.prog 125 [ringA kf pf nf, ringA kt pt nt, homA 1 a, .d (ints x)] [] (.own 0 0 (x).length) [some ⟨1, true, iv (x)⟩] := by
  (refine spec_of (by kernel_rfl) Try.func125 k_spec_l03Map (fnOk (Nat.le_of_ble_eq_true rfl) ?_); unfold C_spec_l03Map)
  simp only [homA]
  (simp only [Nat.reduceSub, List.length_cons, List.length_nil, Nat.reduceAdd, ch_init1, ch_init2, ch_init3, ch_init4, ch_init5, ch_init6, ch_init7, ch_init8]; try simp only [ch_rep]); (simp only [go_sem, seval, reduceCtorEq, List.replicate])
  (repeat (refine And.intro (by omega) ?_))
  (refine FnEnd.mk (Nat.le_of_ble_eq_true rfl) rfl (of_decide_eq_true rfl) ?_ ?_ <;> try simp only [go_sem, seval, reduceCtorEq])
theorem l03Map2_d {kf pf nf kt pt nt a : Int} {x : List Int} {x0 : Int} (i0 : (0 : Int) < x.length) (g0 : x[0]? = some x0) :
    Does Try.prog 125 [ringA kf pf nf, ringA kt pt nt, homA 2 a, .d (ints x)] [] (.own 0 0 (bitE (decide (x0 > 0) == (kf == 3))).length) [some ⟨1, true, iv (bitE (decide (x0 > 0) == (kf == 3)))⟩] := by
  (refine spec_of (by kernel_rfl) Try.func125 k_spec_l03Map (fnOk (Nat.le_of_ble_eq_true rfl) ?_); unfold C_spec_l03Map)
  simp only [homA]
  (simp only [Nat.reduceSub, List.length_cons, List.length_nil, Nat.reduceAdd, ch_init1, ch_init2, ch_init3, ch_init4, ch_init5, ch_init6, ch_init7, ch_init8]; try simp only [ch_rep]); (simp only [go_sem, seval, reduceCtorEq, List.replicate])
  simp (disch := omega) only [go_sem, seval, reduceCtorEq, g0, i0]
  (refine ti_call (l03Bit_d (decide (x0 > 0) == (kf == 3))) ?_ ?_ ?_; (focus (simp only [go_sem, seval, reduceCtorEq]; done)); (first | rfl | (focus (simp only [go_sem]; done))))
  simp only [go_sem, seval, reduceCtorEq]
  (refine FnEnd.mk (Nat.le_of_ble_eq_true rfl) rfl (of_decide_eq_true rfl) ?_ ?_ <;> try simp only [go_sem, seval, reduceCtorEq])
  rfl
theorem l03Map3_d {pf nf kt pt nt a : Int} {x : List Int} {x0 : Int} (i0 : (0 : Int) < x.length) (g0 : x[0]? = some x0) (ha : 0 ≤ a) :
    Does Try.prog 125 [ringA 6 pf nf, ringA kt pt nt, homA 3 a, .d (ints x)] [] (.own 0 0 (bitE (bitX x0 a == 1)).length) [some ⟨1, true, iv (bitE (bitX x0 a == 1))⟩] := by
  (refine spec_of (by kernel_rfl) Try.func125 k_spec_l03Map (fnOk (Nat.le_of_ble_eq_true rfl) ?_); unfold C_spec_l03Map)
  simp only [homA]
  (simp only [Nat.reduceSub, List.length_cons, List.length_nil, Nat.reduceAdd, ch_init1, ch_init2, ch_init3, ch_init4, ch_init5, ch_init6, ch_init7, ch_init8]; try simp only [ch_rep]); (simp only [go_sem, seval, reduceCtorEq, List.replicate])
  simp (disch := omega) only [go_sem, seval, reduceCtorEq, g0, i0]
  refine ⟨by omega, ?_⟩
  (refine ti_call (l03Bit_d (bitX x0 a == 1)) ?_ ?_ ?_; (focus (simp only [go_sem, seval, reduceCtorEq, bitX]; done)); (first | rfl | (focus (simp only [go_sem]; done))))
  simp only [go_sem, seval, reduceCtorEq]
  (refine FnEnd.mk (Nat.le_of_ble_eq_true rfl) rfl (of_decide_eq_true rfl) ?_ ?_ <;> try simp only [go_sem, seval, reduceCtorEq])
  rfl
theorem l03Map4_d {pf nf kt pt nt a : Int} {x : List Int} {x0 : Int} (i0 : (0 : Int) < x.length) (g0 : x[0]? = some x0) :
    Does Try.prog 125 [ringA 5 pf nf, ringA kt pt nt, homA 4 a, .d (ints x)] [] (.own 0 0 (bitE (decide (x0 ≥ a))).length) [some ⟨1, true, iv (bitE (decide (x0 ≥ a)))⟩] := by
  (refine spec_of (by kernel_rfl) Try.func125 k_spec_l03Map (fnOk (Nat.le_of_ble_eq_true rfl) ?_); unfold C_spec_l03Map)
  simp only [homA]
  (simp only [Nat.reduceSub, List.length_cons, List.length_nil, Nat.reduceAdd, ch_init1, ch_init2, ch_init3, ch_init4, ch_init5, ch_init6, ch_init7, ch_init8]; try simp only [ch_rep]); (simp only [go_sem, seval, reduceCtorEq, List.replicate])
  simp (disch := omega) only [go_sem, seval, reduceCtorEq, g0, i0]
  (refine ti_call (l03Bit_d (decide (x0 ≥ a))) ?_ ?_ ?_; (focus (simp only [go_sem, seval, reduceCtorEq]; done)); (first | rfl | (focus (simp only [go_sem]; done))))
  simp only [go_sem, seval, reduceCtorEq]
  (refine FnEnd.mk (Nat.le_of_ble_eq_true rfl) rfl (of_decide_eq_true rfl) ?_ ?_ <;> try simp only [go_sem, seval, reduceCtorEq])
  rfl
theorem l03Map5_d {pf nf kt pt nt a : Int} {x : List Int} {x0 : Int} (i0 : (0 : Int) < x.length) (g0 : x[0]? = some x0) :
    Does Try.prog 125 [ringA 7 pf nf, ringA kt pt nt, homA 5 a, .d (ints x)] [] (.own 0 0 ([x0]).length) [some ⟨1, true, iv ([x0])⟩] := by
  (refine spec_of (by kernel_rfl) Try.func125 k_spec_l03Map (fnOk (Nat.le_of_ble_eq_true rfl) ?_); unfold C_spec_l03Map)
  simp only [homA]
  (simp only [Nat.reduceSub, List.length_cons, List.length_nil, Nat.reduceAdd, ch_init1, ch_init2, ch_init3, ch_init4, ch_init5, ch_init6, ch_init7, ch_init8]; try simp only [ch_rep]); (simp only [go_sem, seval, reduceCtorEq, List.replicate])
  simp (disch := omega) only [go_sem, seval, reduceCtorEq, g0, i0]
  (refine FnEnd.mk (Nat.le_of_ble_eq_true rfl) rfl (of_decide_eq_true rfl) ?_ ?_ <;> try simp only [go_sem, seval, reduceCtorEq])
  rfl
theorem l03Map6_d {pf nf kt pt nt a : Int} {x : List Int} {x0 : Int} (hx : x.length = 4) (hp : 2 ≤ pf ∧ pf ≤ 1000003) (ha : 1 ≤ a ∧ a ≤ pf - 1) (hf : ∀ y ∈ x, 0 ≤ y ∧ y ≤ 1000003) :
    Does Try.prog 125 [ringA 8 pf nf, ringA kt pt nt, homA 6 a, .d (ints x)] [] (.own 0 0 ([hornE pf a x 4]).length) [some ⟨1, true, iv ([hornE pf a x 4])⟩] := by
  (refine spec_of (by kernel_rfl) Try.func125 k_spec_l03Map (fnOk (Nat.le_of_ble_eq_true rfl) ?_); unfold C_spec_l03Map)
  simp only [homA]
  (simp only [Nat.reduceSub, List.length_cons, List.length_nil, Nat.reduceAdd, ch_init1, ch_init2, ch_init3, ch_init4, ch_init5, ch_init6, ch_init7, ch_init8]; try simp only [ch_rep]); (simp only [go_sem, seval, reduceCtorEq, List.replicate])
  have h0 : hornE pf a x 0 = 0 := rfl
  refine wpN_lp (4) [false, false, false, false, false, false, false, false, false, false, false, false, false, false, false, false, false, false, false, false, false, false, false, false, false, false, false, false, false, false, false, false, false, false, false, false, false, false, false, false, false, false, false, false, false, false, false, false, false, false, false, false, true, true, true, true, true, true, true, true, true, true, true, true, true, true, true, true, false, false, false, false, false, false, false, false, false, false, false, false, false, false, false, false, false, false, false, false, false, false, false, false, false, false, false, false, false, false, false, false, false, false, false, false, false, false, false, false, false, false, false] (fun k => [(9, .d (.int (hornE pf a x k))), (10, .d (.int (3 - (k : Int))))]) (fun k => []) (fun _ => by (simp only [go_sem, seval, reduceCtorEq, dropF_ch, dropF_cons, dropF_nil, cut, cond_true, cond_false]); first | done | rfl) (fun _ => by (simp only [go_sem, seval, reduceCtorEq, cut]); first | done | rfl) (Nat.le_of_ble_eq_true rfl) (by first | (simp only [go_sem, seval, reduceCtorEq, dropF_ch, dropF_cons, dropF_nil, cut, cond_true, cond_false, Int.natCast_zero, Int.natCast_add, Int.natCast_one, h0, Int.sub_zero]; done) | rfl | (simp only [go_sem, seval, reduceCtorEq, dropF_ch, dropF_cons, dropF_nil, cut, cond_true, cond_false, Int.natCast_zero, Int.natCast_add, Int.natCast_one, h0, Int.sub_zero]; rfl)) (by first | (simp only [go_sem, seval, reduceCtorEq, dropF_ch, dropF_cons, dropF_nil, cut, cond_true, cond_false, Int.natCast_zero, Int.natCast_add, Int.natCast_one, h0, Int.sub_zero]; done) | rfl | (simp only [go_sem, seval, reduceCtorEq, dropF_ch, dropF_cons, dropF_nil, cut, cond_true, cond_false, Int.natCast_zero, Int.natCast_add, Int.natCast_one, h0, Int.sub_zero]; rfl)) fun k hk => ?_
  unfold L0_spec_l03Map
  have hb : ∀ k, k ≤ 4 → 0 ≤ hornE pf a x k ∧ hornE pf a x k < pf := fun k hk => horn_bd hp ha hf hx k hk
  by_cases hlt : k < 4
  · have d1 : (3 : Int) - k ≥ 0 := by omega
    have hN : ((3 : Int) - k).toNat = 3 - k := by omega
    have g : x[3 - k]? = some (x.getD (3 - k) 0) := by rw [getD_of (show 3 - k < x.length by omega)]; exact List.getElem?_eq_getElem (by omega)
    have hk1 := hb k (by omega)
    have hm := mul_range (a := hornE pf a x k) (b := a) (A := 1000003) (B := 1000003) ⟨by omega, by omega⟩ ⟨by omega, by omega⟩
    have hy := hf (x.getD (3 - k) 0) (by rw [getD_of (show 3 - k < x.length by omega)]; exact List.getElem_mem _)
    have i1 : (3 : Int) - k < x.length := by omega
    have hn : (hornE pf a x k * a + x.getD (3 - k) 0).tmod pf = hornE pf a x (k + 1) := rfl
    have h10 : (3 : Int) - k - 1 = 3 - ((k + 1 : Nat) : Int) := by omega
    generalize hA : hornE pf a x k * a = A at *
    generalize hB : x.getD (3 - k) 0 = B at *
    simp (disch := omega) only [go_sem, seval, reduceCtorEq, d1, hN, g, hA, i1, hn]
    refine ⟨by omega, ?_⟩
    (refine Next.drop [false, false, false, false, false, false, false, false, false, false, false, false, false, false, false, false, false, false, false, false, false, false, false, false, false, false, false, false, false, false, false, false, false, false, false, false, false, false, false, false, false, false, false, false, false, false, false, false, false, false, false, false, true, true, true, true, true, true, true, true, true, true, true, true, true, true, true, true, false, false, false, false, false, false, false, false, false, false, false, false, false, false, false, false, false, false, false, false, false, false, false, false, false, false, false, false, false, false, false, false, false, false, false, false, false, false, false, false, false, false, false] (by omega) (Nat.le_of_ble_eq_true rfl) ?_ ?_ <;> first | (simp only [go_sem, seval, reduceCtorEq, dropF_ch, dropF_cons, dropF_nil, cut, cond_true, cond_false, Int.natCast_zero, Int.natCast_add, Int.natCast_one, h10, hn]; done) | rfl | (simp only [go_sem, seval, reduceCtorEq, dropF_ch, dropF_cons, dropF_nil, cut, cond_true, cond_false, Int.natCast_zero, Int.natCast_add, Int.natCast_one, h10, hn]; rfl) | skip)
  · have d1 : ¬ (3 : Int) - k ≥ 0 := by omega
    obtain rfl : k = 4 := by omega
    simp (disch := omega) only [go_sem, seval, reduceCtorEq, d1]
    (refine FnEnd.mk (Nat.le_of_ble_eq_true rfl) rfl (of_decide_eq_true rfl) ?_ ?_ <;> try simp only [go_sem, seval, reduceCtorEq])
    rfl
theorem l03Map7a_d {pf nf pt nt a : Int} {x : List Int} {x0 : Int} (hx : x.length ≤ 6) (hn : 0 ≤ nt ∧ nt ≤ x.length) :
    Does Try.prog 125 [ringA 7 pf nf, ringA 7 pt nt, homA 7 a, .d (ints x)] [] (.own 0 0 (x.take nt.toNat).length) [some ⟨1, true, iv (x.take nt.toNat)⟩] := by
  (refine spec_of (by kernel_rfl) Try.func125 k_spec_l03Map (fnOk (Nat.le_of_ble_eq_true rfl) ?_); unfold C_spec_l03Map)
  simp only [homA]
  (simp only [Nat.reduceSub, List.length_cons, List.length_nil, Nat.reduceAdd, ch_init1, ch_init2, ch_init3, ch_init4, ch_init5, ch_init6, ch_init7, ch_init8]; try simp only [ch_rep]); (simp only [go_sem, seval, reduceCtorEq, List.replicate])
  obtain ⟨m, rfl⟩ : ∃ m : Nat, nt = m := ⟨nt.toNat, by omega⟩
  have hl : (x.take m).length = m := by rw [List.length_take]; omega
  simp only [Int.sub_zero, Int.toNat_natCast, hl]
  refine ⟨⟨by omega, by omega⟩, ?_⟩
  simp only [go_sem, seval, reduceCtorEq, hl, Nat.le_refl, if_true, List.take_take, Nat.min_self]
  refine ⟨by omega, ?_⟩
  (refine FnEnd.mk (Nat.le_of_ble_eq_true rfl) rfl (of_decide_eq_true rfl) ?_ ?_ <;> try simp only [go_sem, seval, reduceCtorEq])
theorem l03Map7b_d {pf nf pt nt a : Int} {x : List Int} {x0 : Int} (i0 : (0 : Int) < x.length) (g0 : x[0]? = some x0) (hr : ringOk ⟨6, pt, nt⟩ = true) :
    Does Try.prog 125 [ringA 6 pf nf, ringA 6 pt nt, homA 7 a, .d (ints x)] [] (.own 0 0 ([andI x0 (top ⟨6, pt, nt⟩)]).length) [some ⟨1, true, iv ([andI x0 (top ⟨6, pt, nt⟩)])⟩] := by
  (refine spec_of (by kernel_rfl) Try.func125 k_spec_l03Map (fnOk (Nat.le_of_ble_eq_true rfl) ?_); unfold C_spec_l03Map)
  simp only [homA]
  (simp only [Nat.reduceSub, List.length_cons, List.length_nil, Nat.reduceAdd, ch_init1, ch_init2, ch_init3, ch_init4, ch_init5, ch_init6, ch_init7, ch_init8]; try simp only [ch_rep]); (simp only [go_sem, seval, reduceCtorEq, List.replicate])
  simp (disch := omega) only [go_sem, seval, reduceCtorEq, g0, i0]
  (refine gi_call (l02Top_d 6 pt nt hr) ?_ ?_ ?_; (focus (simp only [go_sem, seval, reduceCtorEq]; done)); (first | rfl | (focus (simp only [go_sem]; done))))
  simp only [go_sem, seval, reduceCtorEq]
  (refine FnEnd.mk (Nat.le_of_ble_eq_true rfl) rfl (of_decide_eq_true rfl) ?_ ?_ <;> try simp only [go_sem, seval, reduceCtorEq])
  rfl
theorem l03Map7c_d {kf pf nf pt nt a : Int} {x : List Int} {x0 : Int} (i0 : (0 : Int) < x.length) (g0 : x[0]? = some x0) (h6 : (kf == 6) = false) (h7 : (kf == 7) = false) :
    Does Try.prog 125 [ringA kf pf nf, ringA kf pt nt, homA 7 a, .d (ints x)] [] (.own 0 0 ([min x0 pt]).length) [some ⟨1, true, iv ([min x0 pt])⟩] := by
  (refine spec_of (by kernel_rfl) Try.func125 k_spec_l03Map (fnOk (Nat.le_of_ble_eq_true rfl) ?_); unfold C_spec_l03Map)
  simp only [homA]
  (simp only [Nat.reduceSub, List.length_cons, List.length_nil, Nat.reduceAdd, ch_init1, ch_init2, ch_init3, ch_init4, ch_init5, ch_init6, ch_init7, ch_init8]; try simp only [ch_rep]); (simp only [go_sem, seval, reduceCtorEq, List.replicate])
  simp (disch := omega) only [go_sem, seval, reduceCtorEq, h6, h7, g0, i0]
  (refine FnEnd.mk (Nat.le_of_ble_eq_true rfl) rfl (of_decide_eq_true rfl) ?_ ?_ <;> try simp only [go_sem, seval, reduceCtorEq])
  rfl
theorem l03Map8_d {pf nf kt pt nt a : Int} {x : List Int} {x0 : Int} (i0 : (0 : Int) < x.length) (g0 : x[0]? = some x0) (hr : ringOk ⟨kt, pt, nt⟩ = true) (hk : kt = 4 ∨ kt = 5 ∨ kt = 6) :
    Does Try.prog 125 [ringA 1 pf nf, ringA kt pt nt, homA 8 a, .d (ints x)] [] (.own 0 0 (if x0 = 1 then [if kt = 4 then 0 else top ⟨kt, pt, nt⟩] else zeroE kt pt 1).length) [some ⟨1, true, iv (if x0 = 1 then [if kt = 4 then 0 else top ⟨kt, pt, nt⟩] else zeroE kt pt 1)⟩] := by
  (refine spec_of (by kernel_rfl) Try.func125 k_spec_l03Map (fnOk (Nat.le_of_ble_eq_true rfl) ?_); unfold C_spec_l03Map)
  simp only [homA]
  (simp only [Nat.reduceSub, List.length_cons, List.length_nil, Nat.reduceAdd, ch_init1, ch_init2, ch_init3, ch_init4, ch_init5, ch_init6, ch_init7, ch_init8]; try simp only [ch_rep]); (simp only [go_sem, seval, reduceCtorEq, List.replicate])
  have hw : width ⟨kt, pt, nt⟩ = (1 : Nat) := by simp only [width]; rw [if_neg (by omega), if_neg (by omega)]; rfl
  simp (disch := omega) only [go_sem, seval, reduceCtorEq, g0, i0]
  by_cases h1 : x0 = 1
  · have c1 : (x0 == 1) = true := by simp [h1]
    have e : (if x0 = 1 then [if kt = 4 then 0 else top ⟨kt, pt, nt⟩] else zeroE kt pt 1) = [if kt = 4 then 0 else top ⟨kt, pt, nt⟩] := if_pos h1
    rw [e]
    simp only [go_sem, seval, reduceCtorEq, c1]
    (refine ti_call (l02One_d hr hk) ?_ ?_ ?_; (focus (simp only [go_sem, seval, reduceCtorEq]; done)); (first | rfl | (focus (simp only [go_sem]; done))))
    simp only [go_sem, seval, reduceCtorEq]
    (refine FnEnd.mk (Nat.le_of_ble_eq_true rfl) rfl (of_decide_eq_true rfl) ?_ ?_ <;> try simp only [go_sem, seval, reduceCtorEq])
  · have c1 : (x0 == 1) = false := by simp [h1]
    have e : (if x0 = 1 then [if kt = 4 then 0 else top ⟨kt, pt, nt⟩] else zeroE kt pt 1) = zeroE kt pt 1 := if_neg h1
    have hz := zeroE_len kt pt 1
    rw [e, hz]
    simp only [go_sem, seval, reduceCtorEq, c1]
    (refine ti_call (l02Zero_d (kk := kt) (pp := pt) (nn := nt) hw (by omega)) ?_ ?_ ?_; (focus (simp only [go_sem, seval, reduceCtorEq]; done)); (first | rfl | (focus (simp only [go_sem]; done))))
    simp only [go_sem, seval, reduceCtorEq]
    (refine FnEnd.mk (Nat.le_of_ble_eq_true rfl) rfl (of_decide_eq_true rfl) ?_ ?_ <;> try simp only [go_sem, seval, reduceCtorEq])
end Go.Proofs.Ytjoopfojiiklnaa
