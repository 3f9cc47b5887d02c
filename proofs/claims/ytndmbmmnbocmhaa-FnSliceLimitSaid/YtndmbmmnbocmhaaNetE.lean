/-
 Contracts: labels, uses, neighbours, closed labels. No condition.
-/
import Derived.Test.YtndmbmmnbocmhaaMgSliceLimitA
import Derived.Test.YtndmbmmnbocmhaaNetC
import Derived.Test.YtndmbmmnbocmhaaCoB
set_option linter.unusedSimpArgs false
set_option linter.unusedVariables false
namespace Go.Proofs.Ytndmbmmnbocmhaa
open Go.RowKit Go.Lift Plain
set_option maxRecDepth 100000
def pickTo (p : Nat → Bool) (n : Nat) : List Int := ((List.range n).filter p).map fun (i : Nat) => (i : Int)
theorem pickTo_zero (p : Nat → Bool) : pickTo p 0 = [] := rfl
theorem pickTo_yes {p : Nat → Bool} {k : Nat} (h : p k = true) : pickTo p (k + 1) = pickTo p k ++ [(k : Int)] := by simp [pickTo, List.range_succ, h]
theorem pickTo_no {p : Nat → Bool} {k : Nat} (h : p k = false) : pickTo p (k + 1) = pickTo p k := by simp [pickTo, List.range_succ, h]
theorem pickTo_len (p : Nat → Bool) (k : Nat) : (pickTo p k).length ≤ k := by
 rw [pickTo, List.length_map]
 exact Nat.le_trans (List.length_filter_le _ _) (by simp)
theorem pickTo_mem {p : Nat → Bool} {n : Nat} {x : Int} (h : x ∈ pickTo p n) : ∃ i : Nat, i < n ∧ p i = true ∧ x = i := by
 simp only [pickTo, List.mem_map, List.mem_filter, List.mem_range] at h
 obtain ⟨i, ⟨h1, h2⟩, rfl⟩ := h
 exact ⟨i, h1, h2, rfl⟩
theorem pickTo_sz (p : Nat → Bool) {n : Nat} (h : n ≤ 1048576) : Sz 1048576 (pickTo p n) := ⟨Nat.le_trans (pickTo_len p n) h, fun x hx => by
 obtain ⟨i, h1, _, rfl⟩ := pickTo_mem hx
 exact ⟨by omega, by omega⟩⟩
def labP (ts : List Ten) (i : Nat) : Bool := dimN ts i != 0
noncomputable def labelsL (N : Net) : List Int := if netOk N = true then pickTo (labP N.ts) 100 else []
theorem labelsL_sz (N : Net) : Sz 1048576 (labelsL N) := by
 unfold labelsL
 split
 ·exact pickTo_sz _ (by omega)
 ·exact ⟨by simp, by simp⟩
theorem occurring_d {D : List Int} {ts : List Ten} (hD : D.length = 100) (hat : ∀ x, 0 ≤ x ∧ x ≤ 99 → atT D x = dimN ts x) :
  Does Try.prog 69 [.agg (iv D)] [] (.own 0 0 (pickTo (labP ts) 100).length) [some ⟨1, true, iv (pickTo (labP ts) 100)⟩] := by
 have htD : List.take 100 D = D := List.take_of_length_le (by omega)
 (refine spec_of (by kernel_rfl) Try.func69 k_impl_occurring (fnOk (nb rfl) ?_); unfold C_impl_occurring)
 (simp only [Nat.reduceSub, List.length_cons, List.length_nil, Nat.reduceAdd, ch_init1]; try simp only [ch_rep]); (simp only [go_sem, seval, reduceCtorEq, List.replicate, hD, htD])
 (refine wpN_lwk (Wk.nilE 3 1 _ _ rfl) ?_; simp only [go_sem, seval, reduceCtorEq])
 refine wpN_lp (100) (mkB 19 261936) (fun k => [(3, .own 1 0 (pickTo (labP ts) k).length), (7, .d (.int k))]) (fun k => [(1, iv (pickTo (labP ts) k))]) (h1 := by first | (simp only [go_sem, seval, reduceCtorEq, nz, na, n1, pickTo_zero, iv_nil]; first | done | rfl) | rfl) (h2 := by first | (simp only [go_sem, seval, reduceCtorEq, nz, na, n1, pickTo_zero, iv_nil]; first | done | rfl) | rfl) (hr := fun k hk => ?_)
 unfold L0_impl_occurring
 have hpl := pickTo_len (labP ts) k
 by_cases hlt : k < 100
 ·have d1 : (k : Int) < 100 := by omega
  have g : D[k]? = some (dimN ts k) := by
   have := atT_get hD (x := k) (by omega)
   rw [hat _ (by omega)] at this
   simpa using this
  cases hp : labP ts k
  ·have c : (dimN ts k != 0) = false := hp
   simp (disch := omega) only [go_sem, seval, reduceCtorEq, d1, g, c]
   (refine Next.drop (mkB 19 261936) (by omega) (h1 := ?_) (h2 := ?_) <;> first | (simp only [go_sem, seval, reduceCtorEq, nz, na, n1, pickTo_no hp]; first | done | rfl) | rfl | skip)
  ·have c : (dimN ts k != 0) = true := hp
   simp (disch := omega) only [go_sem, seval, reduceCtorEq, d1, g, c]
   refine ⟨by omega, ?_⟩
   (refine Next.drop (mkB 19 261936) (by omega) (h1 := ?_) (h2 := ?_) <;> first | (simp only [go_sem, seval, reduceCtorEq, nz, na, n1, pickTo_yes hp, List.length_append]; first | done | rfl) | rfl | skip)
 ·have d1 : ¬ (k : Int) < 100 := by omega
  obtain rfl : k = 100 := by omega
  simp (disch := omega) only [go_sem, seval, reduceCtorEq, d1]
  (refine FnEnd.mk (nb rfl) rfl (of_decide_eq_true rfl) ?_ ?_ <;> try simp only [go_sem, seval, reduceCtorEq])
theorem iLabelsOf_d {N : Net} (h : NSz 1048576 N) : Does Try.prog 56 [netA N] [] (.own 0 0 (labelsL N).length) [some ⟨1, true, iv (labelsL N)⟩] := by
 (refine spec_of (by kernel_rfl) Try.func56 k_impl_LabelsOf (fnOk (nb rfl) ?_); unfold C_impl_LabelsOf)
 (simp only [Nat.reduceSub, List.length_cons, List.length_nil, Nat.reduceAdd, ch_init1, ch_init2, ch_init3, ch_init4, ch_init5, ch_init6, ch_init7, ch_init8]; try simp only [ch_rep]); (simp only [go_sem, seval, reduceCtorEq, List.replicate])
 (refine ti_call (iNetworkOk_d h) ?_ ?_ ?_; (focus (simp only [go_sem, seval, reduceCtorEq]; done)); (first | rfl | (focus (simp only [go_sem]; done))))
 cases h1 : netOk N
 ·have e : labelsL N = [] := by simp [labelsL, h1]
  simp only [go_sem, seval, reduceCtorEq, h1, e]
  refine FnEnd.wk (Wk.nilE 2 1 _ _ rfl) ?_
  (refine FnEnd.mk (nb rfl) rfl (of_decide_eq_true rfl) ?_ ?_ <;> try simp only [go_sem, seval, reduceCtorEq])
 have e : labelsL N = pickTo (labP N.ts) 100 := by simp [labelsL, h1]
 have hax := netOk_ax h1
 have hok := (dimsR_ok hax).1.2 (netOk_iff.1 h1).2.2.2.1
 have hat := (dimsR_ok hax).2 hok
 have hRl := dimsR_len N.ts
 have htR : List.take 100 (dimsR N.ts).1 = (dimsR N.ts).1 := List.take_of_length_le (by omega)
 have hdr : List.drop 100 (repI 100 0) = [] := List.drop_of_length_le (by rw [repI_len]; exact Nat.le_refl _)
 simp only [go_sem, seval, reduceCtorEq, h1]
 (refine ti_call (dimsOf_d (ts := N.ts) h.l h.t hax) ?_ ?_ ?_; (focus (simp only [go_sem, seval, reduceCtorEq]; done)); (first | rfl | (focus (simp only [go_sem]; done))))
 simp (disch := omega) only [go_sem, seval, reduceCtorEq, hdr, hRl, htR]
 (refine ti_call (occurring_d hRl hat) ?_ ?_ ?_; (focus (simp only [go_sem, seval, reduceCtorEq]; done)); (first | rfl | (focus (simp only [go_sem]; done))))
 simp only [go_sem, seval, reduceCtorEq, e]
 (refine FnEnd.mk (nb rfl) rfl (of_decide_eq_true rfl) ?_ ?_ <;> try simp only [go_sem, seval, reduceCtorEq])
theorem l12Labels_d {ts : List Ten} (h : ts.length ≤ 1048576) (ht : ∀ t ∈ ts, TSz 1048576 t) (hax : axOks ts) : Does Try.prog 49 [.d (tens ts)] [] (.own 0 0 (pickTo (labP ts) 100).length) [some ⟨1, true, iv (pickTo (labP ts) 100)⟩] := by
 (refine spec_of (by kernel_rfl) Try.func49 k_spec_l12Labels (fnOk (nb rfl) ?_); unfold C_spec_l12Labels)
 (simp only [Nat.reduceSub, List.length_cons, List.length_nil, Nat.reduceAdd, ch_init1, ch_init2, ch_init3, ch_init4, ch_init5, ch_init6, ch_init7, ch_init8]; try simp only [ch_rep]); (simp only [go_sem, seval, reduceCtorEq, List.replicate])
 refine wpN_lp (100) (mkB 19 262112) (fun k => [(3, .own 0 0 (pickTo (labP ts) k).length), (4, .d (.int k))]) (fun k => [(0, iv (pickTo (labP ts) k))]) (h1 := by first | (simp only [go_sem, seval, reduceCtorEq, nz, na, n1, pickTo_zero, iv_nil]; first | done | rfl) | rfl) (h2 := by first | (simp only [go_sem, seval, reduceCtorEq, nz, na, n1, pickTo_zero, iv_nil]; first | done | rfl) | rfl) (hr := fun k hk => ?_)
 unfold L0_spec_l12Labels
 have hpl := pickTo_len (labP ts) k
 have hbd := dimN_bd hax k
 by_cases hlt : k < 100
 ·have d1 : (k : Int) ≤ 99 := by omega
  simp (disch := omega) only [go_sem, seval, reduceCtorEq, d1]
  (refine ti_call (l12Dim_d (ts := ts) (x := k) h ht hax) ?_ ?_ ?_; (focus (simp only [go_sem, seval, reduceCtorEq]; done)); (first | rfl | (focus (simp only [go_sem]; done))))
  cases hp : labP ts k
  ·have c' : dimN ts k = 0 := by simpa [labP] using hp
   have c : ¬ dimN ts k > 0 := by omega
   simp (disch := omega) only [go_sem, seval, reduceCtorEq, c]
   (refine Next.drop (mkB 19 262112) (by omega) (h1 := ?_) (h2 := ?_) <;> first | (simp only [go_sem, seval, reduceCtorEq, nz, na, n1, pickTo_no hp]; first | done | rfl) | rfl | skip)
  ·have c' : dimN ts k ≠ 0 := by simpa [labP] using hp
   have c : dimN ts k > 0 := by omega
   simp (disch := omega) only [go_sem, seval, reduceCtorEq, c]
   refine ⟨by omega, ?_⟩
   (refine Next.drop (mkB 19 262112) (by omega) (h1 := ?_) (h2 := ?_) <;> first | (simp only [go_sem, seval, reduceCtorEq, nz, na, n1, pickTo_yes hp, List.length_append]; first | done | rfl) | rfl | skip)
 ·have d1 : ¬ (k : Int) ≤ 99 := by omega
  obtain rfl : k = 100 := by omega
  simp (disch := omega) only [go_sem, seval, reduceCtorEq, d1]
  (refine FnEnd.mk (nb rfl) rfl (of_decide_eq_true rfl) ?_ ?_ <;> try simp only [go_sem, seval, reduceCtorEq])
set_option maxRecDepth 100000
noncomputable def closedL (N : Net) : List Int := wol (labelsL N) N.os
theorem closedL_sz (N : Net) : Sz 1048576 (closedL N) := by
 have h := labelsL_sz N
 exact ⟨Nat.le_trans (wol_len _ _) h.len, fun x hx => h.wf x (wol_mem.1 hx).1⟩
theorem iClosedLabels_d {N : Net} (h : NSz 1048576 N) : Does Try.prog 31 [netA N] [] (.own 0 0 (closedL N).length) [some ⟨1, true, iv (closedL N)⟩] := by
 have hl := (labelsL_sz N).len
 have hol := h.o.len
 have htl : List.take (labelsL N).length (labelsL N) = labelsL N := List.take_length
 (refine spec_of (by kernel_rfl) Try.func31 k_impl_ClosedLabels (fnOk (nb rfl) ?_); unfold C_impl_ClosedLabels)
 (simp only [Nat.reduceSub, List.length_cons, List.length_nil, Nat.reduceAdd, ch_init1, ch_init2, ch_init3, ch_init4, ch_init5, ch_init6, ch_init7, ch_init8]; try simp only [ch_rep]); (simp only [go_sem, seval, reduceCtorEq, List.replicate])
 (refine ti_call (iLabelsOf_d h) ?_ ?_ ?_; (focus (simp only [go_sem, seval, reduceCtorEq]; done)); (first | rfl | (focus (simp only [go_sem]; done))))
 simp only [go_sem, seval, reduceCtorEq]
 (refine wpN_lwk (Wk.nilE 3 1 _ _ rfl) ?_; simp only [go_sem, seval, reduceCtorEq])
 refine wpN_lp ((labelsL N).length) (mkB 24 8387616) (fun k => [(3, .own 2 0 (wol ((labelsL N).take k) N.os).length), (9, .d (.int k))]) (fun k => [(2, iv (wol ((labelsL N).take k) N.os))]) (h1 := by first | (simp only [go_sem, seval, reduceCtorEq, nz, na, n1, List.take_zero, wol, List.filter_nil, iv_nil]; first | done | rfl) | rfl) (h2 := by first | (simp only [go_sem, seval, reduceCtorEq, nz, na, n1, List.take_zero, wol, List.filter_nil, iv_nil]; first | done | rfl) | rfl) (hr := fun k hk => ?_)
 unfold L0_impl_ClosedLabels
 have hwl := wol_len ((labelsL N).take k) N.os
 have htk : ((labelsL N).take k).length ≤ (labelsL N).length := by rw [List.length_take]; omega
 by_cases hlt : k < (labelsL N).length
 ·have d1 : (k : Int) < (labelsL N).length := by omega
  have g : (labelsL N)[k]? = some (labelsL N)[k] := List.getElem?_eq_getElem hlt
  simp (disch := omega) only [go_sem, seval, reduceCtorEq, d1, g]
  (refine ti_call (hasInt_d (xs := N.os) (x := (labelsL N)[k]) (by omega)) ?_ ?_ ?_; (focus (simp only [go_sem, seval, reduceCtorEq]; done)); (first | rfl | (focus (simp only [go_sem]; done))))
  cases he : has N.os (labelsL N)[k]
  ·have e : wol ((labelsL N).take (k + 1)) N.os = wol ((labelsL N).take k) N.os ++ [(labelsL N)[k]] := filter_yes (p := fun x => !has N.os x) hlt (by rw [he]; rfl)
   simp (disch := omega) only [go_sem, seval, reduceCtorEq, he]
   refine ⟨by omega, ?_⟩
   (refine Next.drop (mkB 24 8387616) (by omega) (h1 := ?_) (h2 := ?_) <;> first | (simp only [go_sem, seval, reduceCtorEq, nz, na, n1, e, List.length_append]; first | done | rfl) | rfl | skip)
  ·have e : wol ((labelsL N).take (k + 1)) N.os = wol ((labelsL N).take k) N.os := filter_no (p := fun x => !has N.os x) hlt (by rw [he]; rfl)
   simp (disch := omega) only [go_sem, seval, reduceCtorEq, he]
   (refine Next.drop (mkB 24 8387616) (by omega) (h1 := ?_) (h2 := ?_) <;> first | (simp only [go_sem, seval, reduceCtorEq, nz, na, n1, e]; first | done | rfl) | rfl | skip)
 ·have d1 : ¬ (k : Int) < (labelsL N).length := by omega
  have htq : List.take k (labelsL N) = labelsL N := List.take_of_length_le (by omega)
  simp (disch := omega) only [go_sem, seval, reduceCtorEq, d1, htq]
  (refine FnEnd.mk (nb rfl) rfl (of_decide_eq_true rfl) ?_ ?_ <;> try simp only [go_sem, seval, reduceCtorEq])
  all_goals rfl
theorem l21Closed_d {N : Net} (h : NSz 1048576 N) (h1 : netOk N = true) : Does Try.prog 36 [netA N] [] (.own 0 0 (closedL N).length) [some ⟨1, true, iv (closedL N)⟩] := by
 have hl := (labelsL_sz N).len
 have hol := h.o.len
 have hlab : labelsL N = pickTo (labP N.ts) 100 := by simp [labelsL, h1]
 (refine spec_of (by kernel_rfl) Try.func36 k_spec_l21Closed (fnOk (nb rfl) ?_); unfold C_spec_l21Closed)
 (simp only [Nat.reduceSub, List.length_cons, List.length_nil, Nat.reduceAdd, ch_init1, ch_init2, ch_init3, ch_init4, ch_init5, ch_init6, ch_init7, ch_init8]; try simp only [ch_rep]); (simp only [go_sem, seval, reduceCtorEq, List.replicate])
 (refine ti_call (l12Labels_d (ts := N.ts) h.l h.t (netOk_ax h1)) ?_ ?_ ?_; (focus (simp only [go_sem, seval, reduceCtorEq]; done)); (first | rfl | (focus (simp only [go_sem]; done))))
 rw [← hlab]
 simp only [go_sem, seval, reduceCtorEq]
 refine wpN_lp ((labelsL N).length) (mkB 26 33550432) (fun k => [(3, .own 1 0 (wol ((labelsL N).take k) N.os).length), (11, .d (.int k))]) (fun k => [(1, iv (wol ((labelsL N).take k) N.os))]) (h1 := by first | (simp only [go_sem, seval, reduceCtorEq, nz, na, n1, List.take_zero, wol, List.filter_nil, iv_nil]; first | done | rfl) | rfl) (h2 := by first | (simp only [go_sem, seval, reduceCtorEq, nz, na, n1, List.take_zero, wol, List.filter_nil, iv_nil]; first | done | rfl) | rfl) (hr := fun k hk => ?_)
 unfold L0_spec_l21Closed
 have hwl := wol_len ((labelsL N).take k) N.os
 have htk : ((labelsL N).take k).length ≤ (labelsL N).length := by rw [List.length_take]; omega
 by_cases hlt : k < (labelsL N).length
 ·have d1 : (k : Int) < (labelsL N).length := by omega
  have g : (labelsL N)[k]? = some (labelsL N)[k] := List.getElem?_eq_getElem hlt
  simp (disch := omega) only [go_sem, seval, reduceCtorEq, d1, g]
  (refine ti_call (l05Find_d (xs := N.os) (x := (labelsL N)[k]) (by omega)) ?_ ?_ ?_; (focus (simp only [go_sem, seval, reduceCtorEq]; done)); (first | rfl | (focus (simp only [go_sem]; done))))
  by_cases he : (labelsL N)[k] ∈ N.os
  ·have c : ¬ place N.os (labelsL N)[k] < 0 := fun e => place_neg.1 e he
   have e : wol ((labelsL N).take (k + 1)) N.os = wol ((labelsL N).take k) N.os := filter_no (p := fun x => !has N.os x) hlt (by rw [has_true.2 he]; rfl)
   simp (disch := omega) only [go_sem, seval, reduceCtorEq, c]
   (refine Next.drop (mkB 26 33550432) (by omega) (h1 := ?_) (h2 := ?_) <;> first | (simp only [go_sem, seval, reduceCtorEq, nz, na, n1, e]; first | done | rfl) | rfl | skip)
  ·have c : place N.os (labelsL N)[k] < 0 := place_neg.2 he
   have e : wol ((labelsL N).take (k + 1)) N.os = wol ((labelsL N).take k) N.os ++ [(labelsL N)[k]] := filter_yes (p := fun x => !has N.os x) hlt (by rw [has_false.2 he]; rfl)
   simp (disch := omega) only [go_sem, seval, reduceCtorEq, c]
   refine ⟨by omega, ?_⟩
   (refine Next.drop (mkB 26 33550432) (by omega) (h1 := ?_) (h2 := ?_) <;> first | (simp only [go_sem, seval, reduceCtorEq, nz, na, n1, e, List.length_append]; first | done | rfl) | rfl | skip)
 ·have d1 : ¬ (k : Int) < (labelsL N).length := by omega
  have htq : List.take k (labelsL N) = labelsL N := List.take_of_length_le (by omega)
  simp (disch := omega) only [go_sem, seval, reduceCtorEq, d1, htq]
  (refine FnEnd.mk (nb rfl) rfl (of_decide_eq_true rfl) ?_ ?_ <;> try simp only [go_sem, seval, reduceCtorEq])
  all_goals rfl
set_option maxRecDepth 100000
theorem prodI_pow : ∀ {ds : List Int}, (∀ d ∈ ds, 1 ≤ d ∧ d ≤ 8) → 1 ≤ prodI ds ∧ prodI ds ≤ 8 ^ ds.length
 | [], _ => by simp [prodI]
 | d :: ds, h => by
  have ih := prodI_pow (ds := ds) fun x hx => h x (List.mem_cons_of_mem _ hx)
  have hd := h d (List.mem_cons_self ..)
  have e : prodI (d :: ds) = d * prodI ds := prodI_cons d ds
  have h1 : d * 1 ≤ d * prodI ds := Int.mul_le_mul_of_nonneg_left ih.1 (by omega)
  have h2 : d * prodI ds ≤ 8 * prodI ds := Int.mul_le_mul_of_nonneg_right hd.2 (by omega)
  rw [e, List.length_cons, Int.pow_succ]
  generalize d * prodI ds = q at *
  exact ⟨by omega, by omega⟩
noncomputable def cntS (N : Net) (L : List Int) : Int := if netOk N = true ∧ L.length ≤ 4 ∧ distB (closedL N) L = true then prodI (L.map (dimN N.ts)) else -1
theorem cntS_no {N : Net} {L : List Int} (h : ¬ (netOk N = true ∧ L.length ≤ 4 ∧ distB (closedL N) L = true)) : cntS N L = -1 := by rw [cntS, if_neg h]
theorem closed_dim {N : Net} (hok : netOk N = true) {x : Int} (hx : x ∈ closedL N) : (0 ≤ x ∧ x ≤ 99) ∧ 1 ≤ dimN N.ts x ∧ dimN N.ts x ≤ 8 := by
 have h1 := (wol_mem.1 hx).1
 rw [labelsL, if_pos hok] at h1
 obtain ⟨i, hi, hp, rfl⟩ := pickTo_mem h1
 have hb := dimN_bd (netOk_ax hok) i
 refine ⟨by omega, ?_⟩
 unfold labP at hp
 simp only [bne_iff_ne, ne_eq] at hp
 omega
theorem iSliceCount_d {N : Net} {L : List Int} (h : NSz 1048576 N) (hL : Sz 1048576 L) : Does Try.prog 18 [netA N, .d (ints L)] [] (.d (.int (cntS N L))) [] := by
 have hnl := h.l
 have hcl := (closedL_sz N).len
 (refine spec_of (by kernel_rfl) Try.func18 k_impl_SliceCount (fnOk (nb rfl) ?_); unfold C_impl_SliceCount)
 (simp only [Nat.reduceSub, List.length_cons, List.length_nil, Nat.reduceAdd, ch_init1, ch_init2, ch_init3, ch_init4, ch_init5, ch_init6, ch_init7, ch_init8]; try simp only [ch_rep]); (simp only [go_sem, seval, reduceCtorEq, List.replicate])
 (refine ti_call (iNetworkOk_d h) ?_ ?_ ?_; (focus (simp only [go_sem, seval, reduceCtorEq]; done)); (first | rfl | (focus (simp only [go_sem]; done))))
 cases hok : netOk N
 ·have e := cntS_no (N := N) (L := L) (by simp [hok])
  simp only [go_sem, seval, reduceCtorEq, hok, e]
  (refine FnEnd.mk (nb rfl) rfl (of_decide_eq_true rfl) ?_ ?_ <;> try simp only [go_sem, seval, reduceCtorEq])
 simp only [go_sem, seval, reduceCtorEq, hok]
 by_cases b1 : (L.length : Int) > 4
 ·have e := cntS_no (N := N) (L := L) (by omega)
  simp only [go_sem, seval, reduceCtorEq, b1, e]
  (refine FnEnd.mk (nb rfl) rfl (of_decide_eq_true rfl) ?_ ?_ <;> try simp only [go_sem, seval, reduceCtorEq])
 have hax := netOk_ax hok
 simp only [go_sem, seval, reduceCtorEq, b1]
 (refine ti_call (iClosedLabels_d h) ?_ ?_ ?_; (focus (simp only [go_sem, seval, reduceCtorEq]; done)); (first | rfl | (focus (simp only [go_sem]; done))))
 simp only [go_sem, seval, reduceCtorEq]
 refine wpN_lpI (L.length) (mkB 54 1099494850768) (fun k => ∀ j (hj : j < L.length), j < k → L[j] ∈ closedL N ∧ L[j] ∉ L.take j) (fun k => [(23, .d (.int k))]) (fun k => []) (hi := fun j _ hj => absurd hj (Nat.not_lt_zero j)) (h1 := by first | (simp only [go_sem, seval, reduceCtorEq, nz, na, n1]; first | done | rfl) | rfl) (h2 := by first | (simp only [go_sem, seval, reduceCtorEq, nz, na, n1]; first | done | rfl) | rfl) (hr := fun k hk hi => ?_)
 unfold L0_impl_SliceCount
 by_cases hlt : k < L.length
 ·have d1 : (k : Int) < L.length := by omega
  have g : L[k]? = some L[k] := List.getElem?_eq_getElem hlt
  have hbad : ¬ (L[k] ∈ closedL N ∧ L[k] ∉ L.take k) → cntS N L = -1 := fun hb => cntS_no fun e => by rw [distB_no k hlt hb] at e; simp at e
  have htk : (L.take k).length = k := by rw [List.length_take]; omega
  simp (disch := omega) only [go_sem, seval, reduceCtorEq, d1, g]
  (refine ti_call (hasInt_d (xs := closedL N) (x := L[k]) (by omega)) ?_ ?_ ?_; (focus (simp only [go_sem, seval, reduceCtorEq]; done)); (first | rfl | (focus (simp only [go_sem]; done))))
  cases hh : has (closedL N) L[k]
  ·have e := hbad fun x => has_false.1 hh x.1
   simp (disch := omega) only [go_sem, seval, reduceCtorEq, hh, e]
   (refine FnEnd.mk (nb rfl) rfl (of_decide_eq_true rfl) ?_ ?_ <;> try simp only [go_sem, seval, reduceCtorEq])
  simp (disch := omega) only [go_sem, seval, reduceCtorEq, hh]
  (repeat (refine And.intro (by omega) ?_))
  (refine ti_call (hasInt_d (xs := L.take k) (x := L[k]) (by omega)) ?_ ?_ ?_; (focus (simp only [go_sem, seval, reduceCtorEq, htk, Int.sub_zero]; done)); (first | rfl | (focus (simp only [go_sem]; done))))
  cases hh2 : has (L.take k) L[k]
  ·have hI : ∀ j (hj : j < L.length), j < k + 1 → L[j] ∈ closedL N ∧ L[j] ∉ L.take j := fun j hj hjk => by
    by_cases e : j = k
    ·subst e
     exact ⟨has_true.1 hh, has_false.1 hh2⟩
    ·exact hi j hj (by omega)
   simp (disch := omega) only [go_sem, seval, reduceCtorEq, hh2]
   (refine NextI.drop (mkB 54 1099494850768) (by omega) (hI) (h1 := ?_) (h2 := ?_) <;> first | (simp only [go_sem, seval, reduceCtorEq, nz, na, n1]; first | done | rfl) | rfl | skip)
  ·have e := hbad fun x => x.2 (has_true.1 hh2)
   simp (disch := omega) only [go_sem, seval, reduceCtorEq, hh2, e]
   (refine FnEnd.mk (nb rfl) rfl (of_decide_eq_true rfl) ?_ ?_ <;> try simp only [go_sem, seval, reduceCtorEq])
 have d1 : ¬ (k : Int) < L.length := by omega
 obtain rfl : k = L.length := by omega
 have hdi : distB (closedL N) L = true := decide_eq_true fun k hk => hi k hk hk
 have hmem : ∀ x ∈ L, x ∈ closedL N := (distB_nodup hdi).2
 have e : cntS N L = prodI (L.map (dimN N.ts)) := by rw [cntS, if_pos ⟨hok, by omega, hdi⟩]
 have hdr : List.drop 100 (repI 100 0) = [] := List.drop_of_length_le (by rw [repI_len]; exact Nat.le_refl _)
 have hRl := dimsR_len N.ts
 have hok2 := (dimsR_ok hax).1.2 (netOk_iff.1 hok).2.2.2.1
 have hat := (dimsR_ok hax).2 hok2
 have hmp : L.map (atT (dimsR N.ts).1) = L.map (dimN N.ts) := List.map_congr_left fun x hx => hat x (closed_dim hok (hmem x hx)).1
 have hds : ∀ d ∈ L.map (dimN N.ts), 1 ≤ d ∧ d ≤ 8 := fun d hd => by
  obtain ⟨x, hx, rfl⟩ := List.mem_map.1 hd
  exact (closed_dim hok (hmem x hx)).2
 have hpp := prodI_pow hds
 have hml : (L.map (dimN N.ts)).length = L.length := by simp
 have hpw : (8 : Int) ^ (L.map (dimN N.ts)).length ≤ 4096 := by
  rw [hml]
  have : L.length = 0 ∨ L.length = 1 ∨ L.length = 2 ∨ L.length = 3 ∨ L.length = 4 := by omega
  rcases this with q | q | q | q | q <;> rw [q] <;> decide
 clear hi
 simp (disch := omega) only [go_sem, seval, reduceCtorEq, d1]
 (refine ti_call (dimsOf_d (ts := N.ts) h.l h.t hax) ?_ ?_ ?_; (focus (simp only [go_sem, seval, reduceCtorEq]; done)); (first | rfl | (focus (simp only [go_sem]; done))))
 simp (disch := omega) only [go_sem, seval, reduceCtorEq, hdr, hRl]
 have ht100 : (dimsR N.ts).1.take 100 = (dimsR N.ts).1 := List.take_of_length_le (by omega)
 have htL : (L.map (dimN N.ts)).take L.length = L.map (dimN N.ts) := List.take_of_length_le (by omega)
 (refine ti_call (axesOf_d (D := (dimsR N.ts).1) (L := L) hRl hL.len (fun x hx => (closed_dim hok (hmem x hx)).1)) ?_ ?_ ?_; (focus (simp only [go_sem, seval, reduceCtorEq, ht100]; done)); (first | rfl | (focus (simp only [go_sem]; done))))
 simp (disch := omega) only [go_sem, seval, reduceCtorEq, hmp]
 (refine ti_call (productOf_d (ds := L.map (dimN N.ts)) (by omega) (fun d hd => (hds d hd).1) (by omega)) ?_ ?_ ?_; (focus (simp only [go_sem, seval, reduceCtorEq, hml, htL]; done)); (first | rfl | (focus (simp only [go_sem]; done))))
 have c9 : ¬ prodI (L.map (dimN N.ts)) > 65536 := by omega
 simp (disch := omega) only [go_sem, seval, reduceCtorEq, c9, e]
 (refine FnEnd.mk (nb rfl) rfl (of_decide_eq_true rfl) ?_ ?_ <;> try simp only [go_sem, seval, reduceCtorEq])
end Go.Proofs.Ytndmbmmnbocmhaa
