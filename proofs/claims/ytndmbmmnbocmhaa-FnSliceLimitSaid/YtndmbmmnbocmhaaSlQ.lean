/-
 Contracts: networks sliced at several labels. No condition.
-/
import Derived.Test.YtndmbmmnbocmhaaSlP
import Derived.Test.YtndmbmmnbocmhaaGenH
set_option linter.unusedSimpArgs false
set_option linter.unusedVariables false
namespace Go.Proofs.Ytndmbmmnbocmhaa
open Go.RowKit Go.Lift Plain
set_option maxRecDepth 100000
theorem indexIn_d {ds : List Int} {n : Int} (hd : ∀ d ∈ ds, 1 ≤ d ∧ d ≤ 1000) (hl : ds.length ≤ 1048576) (h0 : 0 ≤ n ∧ n ≤ 1152921504606846976) :
  Does Try.prog 60 [.d (ints ds), .d (.int n)] [] (.own 0 0 ds.length) [some ⟨1, true, iv (digits ds n)⟩] := by
 have hd1 : ∀ d ∈ ds, 1 ≤ d := fun d h => (hd d h).1
 have hdl := digits_len ds n
 have hpp : ∀ i, 1 ≤ prodI (ds.drop i) := fun i => prodI_pos _ (fun d h => hd1 d (List.mem_of_mem_drop h))
 (refine spec_of (by kernel_rfl) Try.func60 k_impl_indexIn (fnOk (nb rfl) ?_); unfold C_impl_indexIn)
 (simp only [Nat.reduceSub, List.length_cons, List.length_nil, Nat.reduceAdd, ch_init1, ch_init2, ch_init3, ch_init4, ch_init5, ch_init6, ch_init7, ch_init8]; try simp only [ch_rep]); (simp only [go_sem, seval, reduceCtorEq, List.replicate])
 refine ⟨by omega, ?_⟩
 simp (disch := omega) only [go_sem, seval, reduceCtorEq]
 have hz : (List.replicate ds.length (0 : Int)).take (ds.length - 0) ++ (digits ds n).drop (ds.length - 0) = List.replicate ds.length 0 := by
  rw [Nat.sub_zero, List.take_of_length_le (by simp), List.drop_eq_nil_of_le (by omega), List.append_nil]
 have hz2 : n / prodI (ds.drop (ds.length - 0)) = n := by simp [prodI]
 refine wpN_lp (ds.length) (mkB 33 4294959104) (fun k => [(1, .d (.int (n / prodI (ds.drop (ds.length - k))))), (6, .d (.int (ds.length - 1 - k)))]) (fun k => [(0, iv ((List.replicate ds.length (0 : Int)).take (ds.length - k) ++ (digits ds n).drop (ds.length - k)))]) (h1 := by first | (simp only [go_sem, seval, reduceCtorEq, nz, na, n1, hz, hz2, Int.sub_zero]; first | done | rfl) | rfl) (h2 := by first | (simp only [go_sem, seval, reduceCtorEq, nz, na, n1, hz, hz2, Int.sub_zero]; first | done | rfl) | rfl) (hr := fun k hk => ?_)
 unfold L0_impl_indexIn
 by_cases hlt : k < ds.length
 ·obtain ⟨i, hik⟩ : ∃ i, ds.length = k + 1 + i := ⟨ds.length - k - 1, by omega⟩
  have e7 : (ds.length : Int) - 1 - k = i := by omega
  have e8 : ds.length - k = i + 1 := by omega
  have c1 : (i : Int) ≥ 0 := by omega
  have hid : i < ds.length := by omega
  have c3 : (i : Int) < ds.length := by omega
  rw [e8]
  have gd : ds[i]? = some ds[i] := List.getElem?_eq_getElem hid
  have hdi := hd ds[i] (List.getElem_mem hid)
  have hne : ds[i] ≠ 0 := by omega
  have hP := hpp (i + 1)
  have hq : 0 ≤ n / prodI (ds.drop (i + 1)) := Int.ediv_nonneg h0.1 (by omega)
  have hqb : n / prodI (ds.drop (i + 1)) ≤ n := Int.ediv_le_self _ h0.1
  have hdg : (n / prodI (ds.drop (i + 1))).tmod ds[i] = (digits ds n).getD i 0 := by rw [tm hq, digits_get _ _ _ hid, digit, getD_of hid]
  have hdv : (n / prodI (ds.drop (i + 1))).tdiv ds[i] = n / prodI (ds.drop i) := by
   rw [Int.tdiv_eq_ediv_of_nonneg hq, ← quot_step ds n i hid hd1, getD_of hid]
  have hdvb : 0 ≤ n / prodI (ds.drop i) := Int.ediv_nonneg h0.1 (by have := hpp i; omega)
  have hdvc : n / prodI (ds.drop i) ≤ n := Int.ediv_le_self _ h0.1
  have hCl : ((List.replicate ds.length (0 : Int)).take (i + 1) ++ (digits ds n).drop (i + 1)).length = ds.length := by simp; omega
  have hCs : ((List.replicate ds.length (0 : Int)).take (i + 1) ++ (digits ds n).drop (i + 1)).take i ++ [(digits ds n).getD i 0] ++ ((List.replicate ds.length (0 : Int)).take (i + 1) ++ (digits ds n).drop (i + 1)).drop (i + 1) = (List.replicate ds.length (0 : Int)).take i ++ (digits ds n).drop i := by
   have h1 : ((List.replicate ds.length (0 : Int)).take (i + 1) ++ (digits ds n).drop (i + 1)).take i = (List.replicate ds.length (0 : Int)).take i := by
    rw [List.take_append_of_le_length (by simp; omega), List.take_take, Nat.min_eq_left (by omega)]
   have h2 : ((List.replicate ds.length (0 : Int)).take (i + 1) ++ (digits ds n).drop (i + 1)).drop (i + 1) = (digits ds n).drop (i + 1) := by
    rw [List.drop_append_of_le_length (by simp; omega), List.drop_eq_nil_of_le (by simp; omega), List.nil_append]
   rw [h1, h2, List.append_assoc, getD_of (by omega), List.singleton_append, ← List.drop_eq_getElem_cons]
  generalize (List.replicate ds.length (0 : Int)).take (i + 1) ++ (digits ds n).drop (i + 1) = C at *
  have hcl : i + 1 ≤ C.length := by omega
  have e9 : ds.length - (k + 1) = i := by omega
  have e10 : (ds.length : Int) - 1 - (↑k + 1) = i - 1 := by omega
  simp (disch := omega) only [go_sem, seval, reduceCtorEq, e7, c1, c3, gd, hne, hdg, hdv, hcl, ne_eq, not_false_eq_true]
  (refine Next.drop (mkB 33 4294959104) (by omega) (h1 := ?_) (h2 := ?_) <;> first | (simp only [go_sem, seval, reduceCtorEq, nz, na, n1, e9, e10, hCs]; first | done | rfl) | rfl | skip)
 ·have hk' : ds.length - k = 0 := by omega
  have c1 : ¬ (ds.length : Int) - 1 - k ≥ 0 := by omega
  rw [hk']
  simp (disch := omega) only [go_sem, seval, reduceCtorEq, c1]
  (refine FnEnd.mk (nb rfl) rfl (of_decide_eq_true rfl) ?_ ?_ <;> try simp only [go_sem, seval, reduceCtorEq])
theorem iSliceNetwork_f {N : Net} {x v : Int} (h : NSz 1048576 N) (hv : I64 v) : Does Try.prog 61 [netA N, .d (.int x), .d (.int v)] [] (.tup [netA (slcN N x v), .d (.bool (slcB N x v))]) [] := Does.fzNB (iSliceNetwork_d h hv)
structure LabOk (N : Net) (L : List Int) : Prop where
 ok : netOk N = true
 sz : NSz 1048576 N
 len : L.length ≤ 1048576
 dim : ∀ x ∈ L, (0 ≤ x ∧ x ≤ 99) ∧ 1 ≤ dimN N.ts x ∧ dimN N.ts x ≤ 8
 nd : L.Nodup
theorem LabOk.szL {N : Net} {L : List Int} (h : LabOk N L) : Sz 1048576 L := ⟨h.len, fun x hx => by have := (h.dim x hx).1; unfold I64; omega⟩
def dimL' (N : Net) (L : List Int) : List Int := L.map (dimN N.ts)
theorem LabOk.sl {N : Net} {L : List Int} (h : LabOk N L) (k : Int) : SlV N L (digits (dimL' N L) k) := by
 have hl : (dimL' N L).length = L.length := by simp [dimL']
 refine ⟨h.ok, h.sz, by rw [digits_len, hl], fun j hj => ?_⟩
 rw [digits_get _ _ _ (by omega), digit]
 have e : (dimL' N L).getD j 0 = dimN N.ts (L.getD j 0) := by
  rw [getD_of (by omega), getD_of hj]; simp [dimL']
 have hd := h.dim _ (mem_of_get L j hj)
 rw [e]
 exact ⟨Int.emod_nonneg _ (by omega), Int.emod_lt_of_pos _ (by omega)⟩
theorem digits_lt8 {ds : List Int} {n : Int} (hd : ∀ d ∈ ds, 1 ≤ d ∧ d ≤ 8) : ∀ x ∈ digits ds n, 0 ≤ x ∧ x < 8 := fun x hx => by
 obtain ⟨k, hk, rfl⟩ := List.getElem_of_mem hx
 rw [digits_len] at hk
 have e := digits_get ds n k hk
 rw [getD_of (by rw [digits_len]; exact hk)] at e
 rw [e, digit]
 have := hd _ (mem_of_get ds k hk)
 have a := Int.emod_nonneg (n / prodI (ds.drop (k + 1))) (b := ds.getD k 0) (by omega)
 have b := Int.emod_lt_of_pos (n / prodI (ds.drop (k + 1))) (b := ds.getD k 0) (by omega)
 omega
set_option maxHeartbeats 1600000 in
theorem sliceOf_d {N : Net} {L : List Int} (h : LabOk N L) {q : Int} (h0 : 0 ≤ q ∧ q ≤ 1152921504606846976) :
  Does Try.prog 39 [netA N, .d (ints L), .d (.int q)] [] (netA (slA N L (digits (dimL' N L) q))) [] := by
 have hax := netOk_ax h.ok
 have hRl := dimsR_len N.ts
 have hdr : List.drop 100 (repI 100 0) = [] := List.drop_of_length_le (by rw [repI_len]; exact Nat.le_refl _)
 have hok2 := (dimsR_ok hax).1.2 (netOk_iff.1 h.ok).2.2.2.1
 have hat := (dimsR_ok hax).2 hok2
 have hmp : L.map (atT (dimsR N.ts).1) = dimL' N L := List.map_congr_left fun x hx => hat x (h.dim x hx).1
 have hds : ∀ d ∈ dimL' N L, 1 ≤ d ∧ d ≤ 8 := fun d hd => by
  obtain ⟨x, hx, rfl⟩ := List.mem_map.1 hd
  exact (h.dim x hx).2
 have hml : (dimL' N L).length = L.length := by simp [dimL']
 have ht100 : (dimsR N.ts).1.take 100 = (dimsR N.ts).1 := List.take_of_length_le (by omega)
 have htL : (dimL' N L).take L.length = dimL' N L := List.take_of_length_le (by omega)
 have hll := h.len
 have hsl := h.sl q
 have hVl := digits_len (dimL' N L) q
 have hVb := digits_lt8 (n := q) hds
 have hidx := indexIn_d (ds := dimL' N L) (n := q) (fun d hd => by have := hds d hd; omega) (by omega) h0
 generalize digits (dimL' N L) q = V at hsl hVl hVb hidx
 (refine spec_of (by kernel_rfl) Try.func39 k_impl_sliceOf (fnOk (nb rfl) ?_); unfold C_impl_sliceOf)
 (simp only [Nat.reduceSub, List.length_cons, List.length_nil, Nat.reduceAdd, ch_init1, ch_init2, ch_init3, ch_init4, ch_init5, ch_init6, ch_init7, ch_init8]; try simp only [ch_rep]); (simp only [go_sem, seval, reduceCtorEq, List.replicate])
 (refine ti_call (dimsOf_d (ts := N.ts) h.sz.l h.sz.t hax) ?_ ?_ ?_; (focus (simp only [go_sem, seval, reduceCtorEq]; done)); (first | rfl | (focus (simp only [go_sem]; done))))
 simp (disch := omega) only [go_sem, seval, reduceCtorEq, hdr, hRl]
 (refine ti_call (axesOf_d (D := (dimsR N.ts).1) (L := L) hRl h.len (fun x hx => (h.dim x hx).1)) ?_ ?_ ?_; (focus (simp only [go_sem, seval, reduceCtorEq, ht100]; done)); (first | rfl | (focus (simp only [go_sem]; done))))
 simp (disch := omega) only [go_sem, seval, reduceCtorEq, hmp]
 (refine ti_call (hidx) ?_ ?_ ?_; (focus (simp only [go_sem, seval, reduceCtorEq, hml, htL]; done)); (first | rfl | (focus (simp only [go_sem]; done))))
 simp (disch := omega) only [go_sem, seval, reduceCtorEq, hml]
 have e0 := slK_zero (N := N) (L := L) (V := V)
 refine wpN_lp (L.length) (mkB 45 17591649179648) (fun k => [(28, .d (.int k))]) (fun k => [(6, [.d (.int (slK N L V k).k), .d (.int (slK N L V k).p), .d (.int (slK N L V k).n), .d (tens (slK N L V k).ts), .d (ints (slK N L V k).os)])]) (h1 := by first | (simp only [go_sem, seval, reduceCtorEq, nz, na, n1, e0]; first | done | rfl) | rfl) (h2 := by first | (simp only [go_sem, seval, reduceCtorEq, nz, na, n1, e0]; first | done | rfl) | rfl) (hr := fun k hk => ?_)
 unfold L0_impl_sliceOf
 by_cases hlt : k < L.length
 ·have d1 : (k : Int) < L.length := by omega
  have hkV : k < V.length := by omega
  have g : L[k]? = some L[k] := List.getElem?_eq_getElem hlt
  have g2 : V[k]? = some V[k] := List.getElem?_eq_getElem hkV
  have hv := hVb V[k] (List.getElem_mem hkV)
  have hz := hsl.sz' (k := k) (by omega)
  have hnx := (hsl.next hlt (by rw [getD_of hlt]; exact fresh_of h.nd hlt)).2
  rw [getD_of hlt, getD_of hkV] at hnx
  simp (disch := omega) only [go_sem, seval, reduceCtorEq, d1, g, g2, Option.map_some]
  (refine gi_call (iSliceNetwork_f (N := slK N L V k) (x := L[k]) (v := V[k]) hz (by unfold I64; omega)) ?_ ?_ ?_; (focus (simp only [go_sem, seval, reduceCtorEq]; done)); (first | rfl | (focus (simp only [go_sem]; done))))
  simp (disch := omega) only [go_sem, seval, reduceCtorEq, hnx]
  (refine Next.drop (mkB 45 17591649179648) (by omega) (h1 := ?_) (h2 := ?_) <;> first | (simp only [go_sem, seval, reduceCtorEq, nz, na, n1]; first | done | rfl) | rfl | skip)
 ·have d1 : ¬ (k : Int) < L.length := by omega
  obtain rfl : k = L.length := by omega
  simp (disch := omega) only [go_sem, seval, reduceCtorEq, d1]
  (refine FnEnd.mk (nb rfl) rfl (of_decide_eq_true rfl) ?_ ?_ <;> try simp only [go_sem, seval, reduceCtorEq])
  rfl
theorem outL_find {L : List Int} {x : Int} : outL L L.length x = decide (place L x < 0) := by
 rw [Bool.eq_iff_iff, outL, List.take_length, Bool.not_eq_true', has_false, decide_eq_true_eq, place_neg]
set_option maxHeartbeats 1600000 in
theorem l15SliceV_o {N : Net} {L V : List Int} (h : SlV N L V) (hL : Sz 1048576 L) (hV : Sz 1048576 V) : Does Try.prog 59 [netA N, .d (ints L), .d (ints V)] [] (ownN 0 (slA N L V)) (stoN (slA N L V)) := by
 have hnl := h.sz.l
 have hol := h.sz.o.len
 have hll := hL.len
 (refine spec_of (by kernel_rfl) Try.func59 k_spec_l15Slice (fnOk (nb rfl) ?_); unfold C_spec_l15Slice)
 (simp only [Nat.reduceSub, List.length_cons, List.length_nil, Nat.reduceAdd, ch_init1, ch_init2, ch_init3, ch_init4, ch_init5, ch_init6, ch_init7, ch_init8]; try simp only [ch_rep]); (simp only [go_sem, seval, reduceCtorEq, List.replicate])
 (refine wpN_lwk (Wk.nilS 2 4 1 _ _ _ rfl rfl) ?_; simp only [go_sem, seval, reduceCtorEq])
 refine wpN_lp (N.os.length) (mkB 53 8589410816) (fun k => [(18, .d (.int k))]) (fun k => [(2, [.d (.int N.k), .d (.int N.p), .d (.int N.n), .nil, .own 3 0 ((N.os.take k).filter (outL L L.length)).length]), (3, iv ((N.os.take k).filter (outL L L.length)))]) (h1 := by first | (simp only [go_sem, seval, reduceCtorEq, nz, na, n1, List.take_zero, List.filter_nil, iv_nil]; first | done | rfl) | rfl) (h2 := by first | (simp only [go_sem, seval, reduceCtorEq, nz, na, n1, List.take_zero, List.filter_nil, iv_nil]; first | done | rfl) | rfl) (hr := fun k hk => ?_)
 unfold L1_spec_l15Slice
 have hfl := filter_len N.os k (outL L L.length)
 by_cases hlt : k < N.os.length
 ·have d1 : (k : Int) < N.os.length := by omega
  have g : N.os[k]? = some N.os[k] := List.getElem?_eq_getElem hlt
  simp (disch := omega) only [go_sem, seval, reduceCtorEq, d1, g]
  (refine ti_call (l05Find_d (xs := L) (x := N.os[k]) (by omega)) ?_ ?_ ?_; (focus (simp only [go_sem, seval, reduceCtorEq]; done)); (first | rfl | (focus (simp only [go_sem]; done))))
  by_cases c : place L N.os[k] < 0
  ·have e := filter_yes (p := outL L L.length) hlt (by rw [outL_find]; exact decide_eq_true c)
   simp (disch := omega) only [go_sem, seval, reduceCtorEq, c]
   (repeat (refine And.intro (by omega) ?_))
   (refine Next.drop (mkB 53 8589410816) (by omega) (h1 := ?_) (h2 := ?_) <;> first | (simp only [go_sem, seval, reduceCtorEq, nz, na, n1, e, List.length_append]; first | done | rfl) | rfl | skip)
  ·have e := filter_no (p := outL L L.length) hlt (by rw [outL_find]; exact decide_eq_false c)
   simp (disch := omega) only [go_sem, seval, reduceCtorEq, c]
   (refine Next.drop (mkB 53 8589410816) (by omega) (h1 := ?_) (h2 := ?_) <;> first | (simp only [go_sem, seval, reduceCtorEq, nz, na, n1, e]; first | done | rfl) | rfl | skip)
 have d1 : ¬ (k : Int) < N.os.length := by omega
 obtain rfl : k = N.os.length := by omega
 simp (disch := omega) only [go_sem, seval, reduceCtorEq, d1, List.take_length]
 (refine wpN_lwk (Wk.nilS 2 3 3 _ _ _ rfl rfl) ?_; simp only [go_sem, seval, reduceCtorEq])
 refine wpN_lp (N.ts.length) (mkB 53 4503462188419072) (fun k => [(36, .d (.int k))]) (fun k => [(2, [.d (.int N.k), .d (.int N.p), .d (.int N.n), .own 4 0 k, .own 3 0 (N.os.filter (outL L L.length)).length]), (4, tcA ((N.ts.take k).map (fun t => fixTo N.rg t L V L.length)))]) (h1 := by first | (simp only [go_sem, seval, reduceCtorEq, nz, na, n1, List.take_zero, List.map_nil, tcA_nil]; first | done | rfl) | rfl) (h2 := by first | (simp only [go_sem, seval, reduceCtorEq, nz, na, n1, List.take_zero, List.map_nil, tcA_nil]; first | done | rfl) | rfl) (hr := fun k hk => ?_)
 unfold L0_spec_l15Slice
 by_cases hlt : k < N.ts.length
 ·have d1 : (k : Int) < N.ts.length := by omega
  have g3 := tcs_cut (List.getElem?_eq_getElem hlt)
  have hmem := List.getElem_mem hlt
  have hst := h.sz.t N.ts[k] hmem
  have htl : (N.ts.take k).length = k := by rw [List.length_take]; omega
  obtain ⟨f1, f2⟩ := h.fix hmem
  have f3 : fixTo N.rg N.ts[k] L V L.length = fixT ⟨N.k, N.p, N.n⟩ N.ts[k] L V := f2.symm
  simp (disch := omega) only [go_sem, seval, reduceCtorEq, d1, g3]
  (repeat (refine And.intro (by omega) ?_))
  (refine gi_call (l09Fix_d (kk := N.k) (pp := N.p) (nn := N.n) (t := N.ts[k]) (L := L) (V := V) hst hL hV f1) ?_ ?_ ?_; (focus (simp only [go_sem, seval, reduceCtorEq]; done)); (first | rfl | (focus (simp only [go_sem]; done))))
  simp (disch := omega) only [go_sem, seval, reduceCtorEq, List.length_map, htl]
  (repeat (refine And.intro (by omega) ?_))
  (refine Next.mk (by omega) (Wk.trans (Wk.drG [6, 7, 8] 5 (nb rfl) (nb rfl) (of_decide_eq_true rfl) (of_decide_eq_true rfl)) ?_)); (simp only [go_sem, seval, reduceCtorEq, nz, na, n1, take_ss hlt, List.map_append, tcA_app, List.map_cons, List.map_nil, f3, tcA_one]); (refine Wk.eq (Wk.ad3s (mkB 53 4503462188419072) 4 3 (k * 3) true (τ := [_, _, _, _, _]) (nb rfl) rfl (by rw [tcA_len, List.length_map, htl]) rfl (treL_iv _) (treL_iv _) (treL_iv _) (by simp only [go_sem, seval, reduceCtorEq]) (by simp only [go_sem, seval, reduceCtorEq]) (by simp only [go_sem, seval, reduceCtorEq]) (fun _ => rnL_iv _) (fun _ => rnL_iv _)) ?_ ?_ <;> first | (simp only [go_sem, seval, reduceCtorEq, nz, na, n1, take_ss hlt, List.map_append, tcA_app, List.map_cons, List.map_nil, f3, tcA_one]; first | done | rfl) | rfl | skip)
 ·have d1 : ¬ (k : Int) < N.ts.length := by omega
  obtain rfl : k = N.ts.length := by omega
  simp (disch := omega) only [go_sem, seval, reduceCtorEq, d1, List.take_length, slA, slK, List.length_map]
  (refine FnEnd.mk (nb rfl) rfl (of_decide_eq_true rfl) ?_ ?_ <;> try simp only [go_sem, seval, reduceCtorEq])
def zeroV (L : List Int) : List Int := List.replicate L.length 0
theorem digits_z0 (ds : List Int) : digits ds 0 = List.replicate ds.length 0 := by
 refine List.ext_getElem (by simp [digits_len]) fun i h1 h2 => ?_
 rw [digits_len] at h1
 have e := digits_get ds 0 i h1
 rw [getD_of (by rw [digits_len]; exact h1)] at e
 rw [e, digit]
 simp
theorem LabOk.zero {N : Net} {L : List Int} (h : LabOk N L) : digits (dimL' N L) 0 = zeroV L := by rw [digits_z0]; simp [dimL', zeroV]
noncomputable def pkS (N : Net) (n : Nat) (F L : List Int) : Int := orderPeak (slA N L (zeroV L)) n F
structure ClsOk (N : Net) (L : List Int) : Prop where
 ok : netOk N = true
 sz : NSz 1048576 N
 mem : ∀ x ∈ L, x ∈ closedL N
 nd : L.Nodup
theorem ClsOk.lab {N : Net} {L : List Int} (h : ClsOk N L) : LabOk N L :=
 ⟨h.ok, h.sz, by have := nodup_len h.nd fun x hx => (closed_dim h.ok (h.mem x hx)).1; omega, fun x hx => closed_dim h.ok (h.mem x hx), h.nd⟩
theorem ClsOk.dist {N : Net} {L : List Int} (h : ClsOk N L) : distB (closedL N) L = true := decide_eq_true fun k hk => ⟨h.mem _ (List.getElem_mem hk), fresh_of h.nd hk⟩
theorem ClsOk.cnt {N : Net} {L : List Int} (h : ClsOk N L) (hl : L.length ≤ 4) : 1 ≤ cntS N L := by
 rw [cntS, if_pos ⟨h.ok, hl, h.dist⟩]
 exact (prodI_pow fun d hd => by
  obtain ⟨x, hx, rfl⟩ := List.mem_map.1 hd
  exact (closed_dim h.ok (h.mem x hx)).2).1
theorem iSlicedPeak_d {N : Net} {n : Nat} {F L : List Int} (h : ClsOk N L) (hl : L.length ≤ 4) (hF : StpSz 1048576 n F) (ho : orderOk N n F = true) :
  Does Try.prog 17 [netA N, .d (stp n F), .d (ints L)] [] (.d (.int (pkS N n F L))) [] := by
 have hlab := h.lab
 have hc := h.cnt hl
 have hs := sliceOf_d hlab (q := 0) (by omega)
 have hz := (hlab.sl 0).sz' (k := L.length) (Nat.le_refl _)
 rw [hlab.zero] at hs hz
 have c0 : (cntS N L == -1) = false := by simp; omega
 (refine spec_of (by kernel_rfl) Try.func17 k_impl_SlicedPeak (fnOk (nb rfl) ?_); unfold C_impl_SlicedPeak)
 (simp only [Nat.reduceSub, List.length_cons, List.length_nil, Nat.reduceAdd, ch_init1, ch_init2, ch_init3, ch_init4, ch_init5, ch_init6, ch_init7, ch_init8]; try simp only [ch_rep]); (simp only [go_sem, seval, reduceCtorEq, List.replicate])
 (refine ti_call (iOrderOk_d h.sz hF) ?_ ?_ ?_; (focus (simp only [go_sem, seval, reduceCtorEq]; done)); (first | rfl | (focus (simp only [go_sem]; done))))
 simp only [go_sem, seval, reduceCtorEq, ho]
 (refine ti_call (iSliceCount_d h.sz hlab.szL) ?_ ?_ ?_; (focus (simp only [go_sem, seval, reduceCtorEq]; done)); (first | rfl | (focus (simp only [go_sem]; done))))
 simp only [go_sem, seval, reduceCtorEq, c0]
 (refine ti_call (hs) ?_ ?_ ?_; (focus (simp only [go_sem, seval, reduceCtorEq]; done)); (first | rfl | (focus (simp only [go_sem]; done))))
 simp only [go_sem, seval, reduceCtorEq]
 (refine ti_call (iOrderPeak_d (N := slA N L (zeroV L)) hz hF) ?_ ?_ ?_; (focus (simp only [go_sem, seval, reduceCtorEq]; done)); (first | rfl | (focus (simp only [go_sem]; done))))
 simp only [go_sem, seval, reduceCtorEq]
 (refine FnEnd.mk (nb rfl) rfl (of_decide_eq_true rfl) ?_ ?_ <;> try simp only [go_sem, seval, reduceCtorEq])
 rfl
theorem l24Peak_d {N : Net} {n : Nat} {F L : List Int} (h : ClsOk N L) (hF : StpSz 1048576 n F) (ho : orderOk N n F = true) :
  Does Try.prog 35 [netA N, .d (stp n F), .d (ints L)] [] (.d (.int (pkS N n F L))) [] := by
 have hlab := h.lab
 have hsl := hlab.sl 0
 rw [hlab.zero] at hsl
 have hV : Sz 1048576 (zeroV L) := ⟨by have := hlab.len; simp [zeroV]; exact this, fun x hx => by
  have := (List.mem_replicate.1 hx).2
  unfold I64; omega⟩
 have hz : NSz 1048576 (slA N L (zeroV L)) := hsl.sz' (k := L.length) (Nat.le_refl _)
 have hok : orderOk (slA N L (zeroV L)) n F = true := hsl.order (k := L.length) (Nat.le_refl _) ho
 have hs := l15SliceV_o hsl hlab.szL hV
 have hpk := l17Peak_d hz hF hok
 have epk : pkS N n F L = pk (dimsR (slA N L (zeroV L)).ts).1 (ordS (slA N L (zeroV L)) F n).all := by rw [pkS, orderPeak, if_pos hok]
 rw [epk]
 have hzl : (zeroV L).length = L.length := by simp [zeroV]
 have hzv : List.replicate L.length 0 = zeroV L := rfl
 have htz : (zeroV L).take L.length = zeroV L := List.take_of_length_le (by omega)
 generalize slA N L (zeroV L) = M at *
 have htM := tcA_take (ts := M.ts)
 have hll := hlab.len
 (refine spec_of (by kernel_rfl) Try.func35 k_spec_l24Peak (fnOk (nb rfl) ?_); unfold C_spec_l24Peak)
 (simp only [Nat.reduceSub, List.length_cons, List.length_nil, Nat.reduceAdd, ch_init1, ch_init2, ch_init3, ch_init4, ch_init5, ch_init6, ch_init7, ch_init8]; try simp only [ch_rep]); (simp only [go_sem, seval, reduceCtorEq, List.replicate])
 refine And.intro ⟨by omega, by omega⟩ ?_
 simp only [go_sem, seval, reduceCtorEq, hzv]
 (refine gi_call (hs) ?_ ?_ ?_; (focus (simp only [go_sem, seval, reduceCtorEq, hzl, htz]; done)); (first | rfl | (focus (simp only [go_sem]; done))))
 simp only [go_sem, seval, reduceCtorEq]
 (refine ti_call (hpk) ?_ ?_ ?_; (focus (simp only [go_sem, seval, reduceCtorEq, htM, cellsD_tcA]; done)); (first | rfl | (focus (simp only [go_sem]; done))))
 simp only [go_sem, seval, reduceCtorEq]
 (refine FnEnd.mk (nb rfl) rfl (of_decide_eq_true rfl) ?_ ?_ <;> try simp only [go_sem, seval, reduceCtorEq])
end Go.Proofs.Ytndmbmmnbocmhaa
