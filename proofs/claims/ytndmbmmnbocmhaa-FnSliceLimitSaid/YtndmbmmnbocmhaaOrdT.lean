/-
 Plain: all labels of a state have dimensions. No condition.
-/
import Derived.Test.YtndmbmmnbocmhaaOrdB
import Derived.Test.YtndmbmmnbocmhaaOrdC
set_option linter.unusedSimpArgs false
set_option linter.unusedVariables false
namespace Go.Proofs.Ytndmbmmnbocmhaa
open Go.RowKit Go.Lift Plain
set_option maxRecDepth 100000
def OsT (T : List Int) (s : Osd) : Prop := ∀ i, ∀ x ∈ s.lab i, 1 ≤ atT T x ∧ atT T x ≤ 8
section
variable {T os : List Int} {s : Osd} {m a b : Nat}
theorem OsT.res (h : OsT T s) : ∀ x ∈ s.res os a b, 1 ≤ atT T x ∧ atT T x ≤ 8 := fun x hx =>
 (mem_joinL.1 (List.mem_filter.1 hx).1).elim (h a x) (h b x)
theorem OsT.step (hs : OsOk s m) (h : OsT T s) : OsT T (s.step os a b) := fun i x hx => by
 rcases Nat.lt_trichotomy i m with hi | rfl | hi
 ·rw [lab_step hs hi] at hx; exact h i x hx
 ·rw [lab_step_new hs] at hx; exact h.res x hx
 ·have : (s.step os a b).lab i = [] := by
   have := (hs.step os a b).n
   unfold Osd.lab
   rw [List.getD_eq_getElem?_getD, List.getElem?_eq_none (by omega)]; rfl
  rw [this] at hx; cases hx
theorem osInit_T {N : Net} (h : netOk N = true) : OsT (dimsR N.ts).1 (osInit N.ts) := fun i x hx => by
 by_cases hi : i < N.ts.length
 ·rw [osInit_lab hi] at hx
  have hd := dims_net h (List.getElem_mem hi)
  have : atT (dimsR N.ts).1 x ∈ N.ts[i].dims := by rw [← hd]; exact List.mem_map_of_mem hx
  have := (netOk_ax h _ (List.getElem_mem hi)).dim _ this
  omega
 ·have : (osInit N.ts).lab i = [] := by
   unfold Osd.lab
   rw [List.getD_eq_getElem?_getD, List.getElem?_eq_none (by simp [osInit]; omega)]; rfl
  rw [this] at hx; cases hx
end
set_option maxRecDepth 100000
section
variable {N : Net} {n : Nat} {F : List Int}
def stA (F : List Int) (k : Nat) : Nat := (F.getD (k * 2) 0).toNat
def stB (F : List Int) (k : Nat) : Nat := (F.getD (k * 2 + 1) 0).toNat
structure OrdOk (N : Net) (F : List Int) (k : Nat) : Prop where
 ok : OsOk (ordS N F k) (N.ts.length + k)
 t : OsT (dimsR N.ts).1 (ordS N F k)
theorem ord_zero (N : Net) (F : List Int) : ordS N F 0 = osInit N.ts := rfl
structure OrdStep (N : Net) (F : List Int) (k : Nat) : Prop where
 a : F.getD (k * 2) 0 = stA F k
 b : F.getD (k * 2 + 1) 0 = stB F k
 ma : stA F k ∈ (ordS N F k).nums
 mb : stB F k ∈ (ordS N F k).nums
 lt : stA F k < stB F k
 nx : ordS N F (k + 1) = (ordS N F k).step N.os (stA F k) (stB F k)
 fol : followB (ordS N F k) (F.getD (k * 2) 0) (F.getD (k * 2 + 1) 0) = true
theorem ordStep (h : orderOk N n F = true) {k : Nat} (hk : k < n) : OrdStep N F k := by
 have h2 := (orderOk_iff.1 h).2.2
 have hf := ordTo_fol h2 hk
 obtain ⟨a, b, e1, e2, ha, hb, hab⟩ := followB_nat hf
 have ea : stA F k = a := by rw [stA, e1]; rfl
 have eb : stB F k = b := by rw [stB, e2]; rfl
 have hy := congrArg Prod.fst (ordTo_yes (ordTo_down h2 (Nat.le_of_lt hk)) hf)
 exact ⟨by rw [ea, e1], by rw [eb, e2], by rw [ea]; exact ha, by rw [eb]; exact hb, by rw [ea, eb]; exact hab, hy, hf⟩
theorem ordOk (h : orderOk N n F = true) : ∀ k, k ≤ n → OrdOk N F k
 | 0, _ => ⟨osInit_ok (netOk_ax (orderOk_iff.1 h).1), osInit_T (orderOk_iff.1 h).1⟩
 | k + 1, hk => by
  have ih := ordOk h k (by omega)
  have hs := ordStep h (show k < n by omega)
  exact ⟨by rw [hs.nx]; exact ih.ok.step _ _ _, by rw [hs.nx]; exact OsT.step ih.ok ih.t⟩
theorem OrdStep.at {k : Nat} (h : OrdStep N F k) (ho : OrdOk N F k) : stA F k < N.ts.length + k ∧ stB F k < N.ts.length + k := by
 have hn := ho.ok.n
 have h1 := (nums_mem.1 h.ma).1
 have h2 := (nums_mem.1 h.mb).1
 omega
end
set_option maxRecDepth 100000
theorem cappedProduct_d {ds : List Int} (h : ds.length ≤ 1048576) (hd : ∀ d ∈ ds, 1 ≤ d ∧ d ≤ 100) : Does Try.prog 55 [.d (ints ds), .d (.int 1000000000)] [] (.d (.int (min (prodI ds) 1000000000))) [] := by
 have h1 : min (prodI (ds.take 0)) 1000000000 = 1 := by simp [prodI]; omega
 (refine spec_of (by kernel_rfl) Try.func55 k_impl_cappedProduct (fnOk (nb rfl) ?_); unfold C_impl_cappedProduct)
 (simp only [Nat.reduceSub, List.length_cons, List.length_nil, Nat.reduceAdd, ch_init1, ch_init2, ch_init3, ch_init4, ch_init5, ch_init6, ch_init7, ch_init8]; try simp only [ch_rep]); (simp only [go_sem, seval, reduceCtorEq, List.replicate])
 refine wpN_lp (ds.length) (mkB 21 1046656) (fun k => [(5, .d (.int (min (prodI (ds.take k)) 1000000000))), (10, .d (.int k))]) (fun k => []) (h1 := by first | (simp only [go_sem, seval, reduceCtorEq, nz, na, n1, h1]; first | done | rfl) | rfl) (h2 := by first | (simp only [go_sem, seval, reduceCtorEq, nz, na, n1, h1]; first | done | rfl) | rfl) (hr := fun k hk => ?_)
 unfold L0_impl_cappedProduct
 by_cases hlt : k < ds.length
 ·have d1 : (k : Int) < ds.length := by omega
  have g : ds[k]? = some ds[k] := List.getElem?_eq_getElem hlt
  have hdk := hd ds[k] (List.getElem_mem hlt)
  have hp := prodI_pos (ds.take k) fun d hm => (hd d (List.mem_of_mem_take hm)).1
  have hs := prodI_take_succ ds k hlt
  rw [getD_of hlt] at hs
  have hm := min_mul (prodI (ds.take k)) ds[k] 1000000000 hdk.1 (by omega)
  rw [← hs] at hm
  have hb1 : 0 ≤ min (prodI (ds.take k)) 1000000000 * ds[k] := Int.mul_nonneg (by omega) (by omega)
  have hb2 : min (prodI (ds.take k)) 1000000000 * ds[k] ≤ 1000000000 * 100 := Int.mul_le_mul (by omega) hdk.2 (by omega) (by omega)
  simp (disch := omega) only [go_sem, seval, reduceCtorEq, d1, g]
  (refine Next.drop (mkB 21 1046656) (by omega) (h1 := ?_) (h2 := ?_) <;> first | (simp only [go_sem, seval, reduceCtorEq, nz, na, n1, hm]; first | done | rfl) | rfl | skip)
 ·have d1 : ¬ (k : Int) < ds.length := by omega
  have ht : ds.take k = ds := List.take_of_length_le (by omega)
  simp (disch := omega) only [go_sem, seval, reduceCtorEq, d1, ht]
  (refine FnEnd.mk (nb rfl) rfl (of_decide_eq_true rfl) ?_ ?_ <;> try simp only [go_sem, seval, reduceCtorEq])
theorem orderState_size_d {T os L : List Int} {s : Osd} (hD : T.length = 100) (hl : L.length ≤ 1048576) (hx : ∀ x ∈ L, 0 ≤ x ∧ x ≤ 99) (hT : ∀ x ∈ L, 1 ≤ atT T x ∧ atT T x ≤ 8) :
  Does Try.prog 29 [osP T os s, .d (ints L)] [] (.d (.int (capP T L))) [] := by
 have htk : List.take 100 (dv T) = dv T := List.take_of_length_le (by rw [dv_len]; omega)
 have hml : (L.map (atT T)).length = L.length := List.length_map ..
 have htm : List.take L.length (L.map (atT T)) = L.map (atT T) := List.take_of_length_le (by omega)
 (refine spec_of (by kernel_rfl) Try.func29 k_impl_orderState_size (fnOk (nb rfl) ?_); unfold C_impl_orderState_size)
 simp only [osP]
 (simp only [Nat.reduceSub, List.length_cons, List.length_nil, Nat.reduceAdd, ch_init1, ch_init2, ch_init3, ch_init4, ch_init5, ch_init6, ch_init7, ch_init8]; try simp only [ch_rep]); (simp only [go_sem, seval, reduceCtorEq, List.replicate])
 simp (disch := omega) only [go_sem, seval, reduceCtorEq, htk]
 (repeat (refine And.intro (by omega) ?_))
 (refine ti_call (axesOf_d (D := T) (L := L) hD hl hx) ?_ ?_ ?_; (focus (simp only [go_sem, seval, reduceCtorEq]; done)); (first | rfl | (focus (simp only [go_sem]; done))))
 simp (disch := omega) only [go_sem, seval, reduceCtorEq]
 (refine ti_call (cappedProduct_d (ds := L.map (atT T)) (by omega) (fun d hd => by obtain ⟨x, hx, rfl⟩ := List.mem_map.1 hd; have := hT x hx; omega)) ?_ ?_ ?_; (focus (simp only [go_sem, seval, reduceCtorEq, hml, htm]; done)); (first | rfl | (focus (simp only [go_sem]; done))))
 simp only [go_sem, seval, reduceCtorEq, capP]
 (refine FnEnd.mk (nb rfl) rfl (of_decide_eq_true rfl) ?_ ?_ <;> try simp only [go_sem, seval, reduceCtorEq])
set_option maxRecDepth 100000
section
variable {N : Net} {n : Nat} {F : List Int}
def costAt (N : Net) (F : List Int) (k : Nat) : Int := capP (dimsR N.ts).1 (joinL ((ordS N F k).lab (stA F k)) ((ordS N F k).lab (stB F k)))
def costsTo (N : Net) (F : List Int) (k : Nat) : List Int := (List.range k).map (costAt N F)
theorem costsTo_len (k : Nat) : (costsTo N F k).length = k := by simp [costsTo]
theorem costsTo_next (k : Nat) : costsTo N F (k + 1) = costsTo N F k ++ [costAt N F k] := by simp [costsTo, List.range_succ]
end
theorem l17Run_d {N : Net} {n : Nat} {F : List Int} (h : NSz 1048576 N) (hF : StpSz 1048576 n F) (hok : orderOk N n F = true) :
  Does Try.prog 74 [netA N, .d (stp n F)] [] (.tup [.ptr 0 0, .own 3 0 n])
   [some ⟨0, false, [.own 1 0 (ordS N F n).all.length, .own 2 0 (ordS N F n).gone.length]⟩, some ⟨3, true, shA (dimsR N.ts).1 (ordS N F n).all⟩, some ⟨1, true, bv (ordS N F n).gone⟩, some ⟨1, true, iv (costsTo N F n)⟩] := by
 have hn := hF.n
 have hFl := hF.l
 have hol := h.o.len
 obtain ⟨h1, h2, _⟩ := orderOk_iff.1 hok
 have h12 := (netOk_iff.1 h1).2.1
 (refine spec_of (by kernel_rfl) Try.func74 k_spec_l17Run (fnOk (nb rfl) ?_); unfold C_spec_l17Run)
 (simp only [Nat.reduceSub, List.length_cons, List.length_nil, Nat.reduceAdd, ch_init1, ch_init2, ch_init3, ch_init4, ch_init5, ch_init6, ch_init7, ch_init8]; try simp only [ch_rep]); (simp only [go_sem, seval, reduceCtorEq, List.replicate])
 (refine ti_call (l17New_d h h1) ?_ ?_ ?_; (focus (simp only [go_sem, seval, reduceCtorEq, stoQ]; done)); (first | rfl | (focus (simp only [go_sem]; done))))
 simp only [go_sem, seval, reduceCtorEq, stoQ]
 have hz : costsTo N F 0 = [] := rfl
 have hz2 := ord_zero N F
 refine wpN_lp (n) (mkB 30 268374528) (fun k => [(15, .d (.int k)), (7, .own 4 0 k)]) (fun k => [(1, [.own 2 0 (ordS N F k).all.length, .own 3 0 (ordS N F k).gone.length]), (2, shA (dimsR N.ts).1 (ordS N F k).all), (3, bv (ordS N F k).gone), (4, iv (costsTo N F k))]) (h1 := by first | (simp only [go_sem, seval, reduceCtorEq, nz, na, n1, hz, hz2, iv_nil]; first | done | rfl) | rfl) (h2 := by first | (simp only [go_sem, seval, reduceCtorEq, nz, na, n1, hz, hz2, iv_nil]; first | done | rfl) | rfl) (hr := fun k hk => ?_)
 unfold L0_spec_l17Run
 have hcl := costsTo_len (N := N) (F := F) k
 by_cases hlt : k < n
 ·have d1 : (k : Int) < n := by omega
  have g := stp_cut hF hlt
  have hs := ordStep hok hlt
  have ho := ordOk hok k (by omega)
  have ht := hs.at ho
  have hnx := hs.nx
  have hcn := costsTo_next (N := N) (F := F) k
  have hca : capP (dimsR N.ts).1 (joinL ((ordS N F k).lab (stA F k)) ((ordS N F k).lab (stB F k))) = costAt N F k := rfl
  rw [hs.a, hs.b] at g
  simp (disch := omega) only [go_sem, seval, reduceCtorEq, d1, g, dv_two]
  (repeat (refine And.intro (by omega) ?_))
  (refine ti_callcg [1, 2, 3] [2, 3] false (of_decide_eq_true rfl) ?_ _ ?_ (l17Step_d (T := (dimsR N.ts).1) (os := N.os) (s := ordS N F k) (a := stA F k) (b := stB F k) ho.ok (by omega) (by omega) ht.1 ht.2 (fun i _ => ho.t i)) ?_ ?_; (focus (simp only [go_sem, seval, reduceCtorEq, stoQ]; done)); (focus (simp only [go_sem, seval, reduceCtorEq, stoQ]; done)); (focus (first | rfl | (simp only [go_sem, seval, reduceCtorEq, stoQ]; done))))
  simp (disch := omega) only [go_sem, seval, reduceCtorEq, stoQ, hca, ← hnx]
  (repeat (refine And.intro (by omega) ?_))
  (refine Next.drop (mkB 30 268374528) (by omega) (h1 := ?_) (h2 := ?_) <;> first | (simp only [go_sem, seval, reduceCtorEq, nz, na, n1, hcn]; first | done | rfl) | rfl | skip)
 ·have d1 : ¬ (k : Int) < n := by omega
  obtain rfl : k = n := by omega
  simp (disch := omega) only [go_sem, seval, reduceCtorEq, d1]
  (refine FnEnd.mkI [1, 2, 3, 4] (nb rfl) rfl (of_decide_eq_true rfl) rfl ?_ ?_ <;> try simp only [go_sem, seval, reduceCtorEq])
set_option maxRecDepth 100000
def pk (T : List Int) (L : List (List Int)) : Int := L.foldl (fun p l => max p (capP T l)) 1
theorem pk_snoc (T : List Int) (L : List (List Int)) (l : List Int) : pk T (L ++ [l]) = max (pk T L) (capP T l) := by rw [pk, List.foldl_append]; rfl
theorem pk_next {T : List Int} {L : List (List Int)} {k : Nat} (h : k < L.length) : pk T (L.take (k + 1)) = max (pk T (L.take k)) (capP T L[k]) := by rw [take_ss h, pk_snoc]
noncomputable def orderPeak (N : Net) (n : Nat) (F : List Int) : Int := if orderOk N n F = true then pk (dimsR N.ts).1 (ordS N F n).all else -1
theorem l17Peak_d {N : Net} {n : Nat} {F : List Int} (h : NSz 1048576 N) (hF : StpSz 1048576 n F) (hok : orderOk N n F = true) :
  Does Try.prog 58 [netA N, .d (stp n F)] [] (.d (.int (pk (dimsR N.ts).1 (ordS N F n).all))) [] := by
 have hn := hF.n
 have ho := ordOk hok n (Nat.le_refl _)
 have hal := ho.ok.n
 have hot := ho.t
 have hoo := ho.ok
 have h2 := (orderOk_iff.1 hok).2.1
 have h12 := (netOk_iff.1 (orderOk_iff.1 hok).1).2.1
 (refine spec_of (by kernel_rfl) Try.func58 k_spec_l17Peak (fnOk (nb rfl) ?_); unfold C_spec_l17Peak)
 (simp only [Nat.reduceSub, List.length_cons, List.length_nil, Nat.reduceAdd, ch_init1, ch_init2, ch_init3, ch_init4, ch_init5, ch_init6, ch_init7, ch_init8]; try simp only [ch_rep]); (simp only [go_sem, seval, reduceCtorEq, List.replicate])
 (refine ti_call (l17Run_d h hF hok) ?_ ?_ ?_; (focus (simp only [go_sem, seval, reduceCtorEq]; done)); (first | rfl | (focus (simp only [go_sem]; done))))
 simp only [go_sem, seval, reduceCtorEq]
 generalize hS : ordS N F n = s at *
 have hz : pk (dimsR N.ts).1 (s.all.take 0) = 1 := rfl
 refine wpN_lp (s.all.length) (mkB 33 4290773504) (fun k => [(7, .d (.int (pk (dimsR N.ts).1 (s.all.take k)))), (21, .d (.int k))]) (fun k => []) (h1 := by first | (simp only [go_sem, seval, reduceCtorEq, nz, na, n1, hz]; first | done | rfl) | rfl) (h2 := by first | (simp only [go_sem, seval, reduceCtorEq, nz, na, n1, hz]; first | done | rfl) | rfl) (hr := fun k hk => ?_)
 unfold L0_spec_l17Peak
 by_cases hlt : k < s.all.length
 ·have d1 : (k : Int) < s.all.length := by omega
  have g := shA_cut (T := (dimsR N.ts).1) hlt
  have hlab : s.lab k = s.all[k] := by simp [Osd.lab, hlt]
  rw [← hlab] at g
  have hx := hot k
  have hln := hoo.len k
  have hml : ((s.lab k).map (atT (dimsR N.ts).1)).length = (s.lab k).length := List.length_map ..
  have hn := pk_next (T := (dimsR N.ts).1) hlt
  rw [← hlab] at hn
  have hmin : min 1000000000 (min (prodI ((s.lab k).map (atT (dimsR N.ts).1))) 1000000001) = capP (dimsR N.ts).1 (s.lab k) := by unfold capP; omega
  simp (disch := omega) only [go_sem, seval, reduceCtorEq, d1, g]
  (repeat (refine And.intro (by omega) ?_))
  (refine ti_call (l05Product_d (ds := (s.lab k).map (atT (dimsR N.ts).1)) (lim := 1000000000) (by omega) (fun d hd => by obtain ⟨x, hx', rfl⟩ := List.mem_map.1 hd; have := hx x hx'; omega) (by omega)) ?_ ?_ ?_; (focus (simp only [go_sem, seval, reduceCtorEq, hml]; done)); (first | rfl | (focus (simp only [go_sem]; done))))
  simp (disch := omega) only [go_sem, seval, reduceCtorEq, hmin]
  (refine Next.drop (mkB 33 4290773504) (by omega) (h1 := ?_) (h2 := ?_) <;> first | (simp only [go_sem, seval, reduceCtorEq, nz, na, n1, hn]; first | done | rfl) | rfl | skip)
 ·have d1 : ¬ (k : Int) < s.all.length := by omega
  have ht : s.all.take k = s.all := List.take_of_length_le (by omega)
  simp (disch := omega) only [go_sem, seval, reduceCtorEq, d1, ht]
  (refine FnEnd.mk (nb rfl) rfl (of_decide_eq_true rfl) ?_ ?_ <;> try simp only [go_sem, seval, reduceCtorEq])
theorem iOrderPeak_d {N : Net} {n : Nat} {F : List Int} (h : NSz 1048576 N) (hF : StpSz 1048576 n F) :
  Does Try.prog 14 [netA N, .d (stp n F)] [] (.d (.int (orderPeak N n F))) [] := by
 have hn := hF.n
 have hFl := hF.l
 have hol := h.o.len
 have hD := dimsR_len N.ts
 (refine spec_of (by kernel_rfl) Try.func14 k_impl_OrderPeak (fnOk (nb rfl) ?_); unfold C_impl_OrderPeak)
 (simp only [Nat.reduceSub, List.length_cons, List.length_nil, Nat.reduceAdd, ch_init1, ch_init2, ch_init3, ch_init4, ch_init5, ch_init6, ch_init7, ch_init8]; try simp only [ch_rep]); (simp only [go_sem, seval, reduceCtorEq, List.replicate])
 (refine ti_call (iOrderOk_d h hF) ?_ ?_ ?_; (focus (simp only [go_sem, seval, reduceCtorEq]; done)); (first | rfl | (focus (simp only [go_sem]; done))))
 cases hok : orderOk N n F
 ·have e : orderPeak N n F = -1 := by rw [orderPeak, hok]; rfl
  simp only [go_sem, seval, reduceCtorEq, hok, e]
  (refine FnEnd.mk (nb rfl) rfl (of_decide_eq_true rfl) ?_ ?_ <;> try simp only [go_sem, seval, reduceCtorEq])
 have e : orderPeak N n F = pk (dimsR N.ts).1 (ordS N F n).all := by rw [orderPeak, if_pos hok]
 obtain ⟨h1, h2, _⟩ := orderOk_iff.1 hok
 have h12 := (netOk_iff.1 h1).2.1
 simp only [go_sem, seval, reduceCtorEq, hok]
 (refine ti_call (startState_d h h1) ?_ ?_ ?_; (focus (simp only [go_sem, seval, reduceCtorEq, osR, lvS]; done)); (first | rfl | (focus (simp only [go_sem]; done))))
 simp (disch := omega) only [go_sem, seval, reduceCtorEq, osR, lvS]
 have ho0t : OsT (dimsR N.ts).1 (osInit N.ts) := (ordOk hok 0 (Nat.zero_le _)).t
 have ho0k : OsOk (osInit N.ts) (N.ts.length + 0) := (ordOk hok 0 (Nat.zero_le _)).ok
 have hnl0 : (osInit N.ts).nums.length = N.ts.length := by rw [osInit_nums, List.length_range]
 have hal0 : (osInit N.ts).all.length = N.ts.length := by simp [osInit]
 have hz : pk (dimsR N.ts).1 ((osInit N.ts).all.take 0) = 1 := rfl
 refine wpN_lp (N.ts.length) (mkB 61 8581546240) (fun k => [(6, .d (.int (pk (dimsR N.ts).1 ((osInit N.ts).all.take k)))), (22, .d (.int k))]) (fun k => []) (h1 := by first | (simp only [go_sem, seval, reduceCtorEq, nz, na, n1, hz]; first | done | rfl) | rfl) (h2 := by first | (simp only [go_sem, seval, reduceCtorEq, nz, na, n1, hz]; first | done | rfl) | rfl) (hr := fun k hk => ?_)
 unfold L1_impl_OrderPeak
 by_cases hlt : k < N.ts.length
 ·have d1 : (k : Int) < (osInit N.ts).nums.length := by omega
  have hk : k < (osInit N.ts).nums.length := by omega
  have hnk : (osInit N.ts).nums[k] = k := by simp [osInit_nums]
  have g := lvD_cut (f := (osInit N.ts).lab) hk
  rw [hnk] at g
  have hlab : (osInit N.ts).lab k = (osInit N.ts).all[k] := by simp [Osd.lab, hal0, hlt]
  have hnx := pk_next (T := (dimsR N.ts).1) (L := (osInit N.ts).all) (show k < (osInit N.ts).all.length by omega)
  rw [← hlab] at hnx
  have hln := ho0k.len k
  simp (disch := omega) only [go_sem, seval, reduceCtorEq, d1, g]
  (repeat (refine And.intro (by omega) ?_))
  (refine ti_call (orderState_size_d (T := (dimsR N.ts).1) (os := N.os) (s := osInit N.ts) hD (by omega) (ho0k.at k).2 (ho0t k)) ?_ ?_ ?_; (focus (simp only [go_sem, seval, reduceCtorEq, osP, lvS]; done)); (first | rfl | (focus (simp only [go_sem]; done))))
  simp (disch := omega) only [go_sem, seval, reduceCtorEq]
  (refine Next.drop (mkB 61 8581546240) (by omega) (h1 := ?_) (h2 := ?_) <;> first | (simp only [go_sem, seval, reduceCtorEq, nz, na, n1, hnx]; first | done | rfl) | rfl | skip)
 ·have d1 : ¬ (k : Int) < (osInit N.ts).nums.length := by omega
  have ht : (osInit N.ts).all.take k = (osInit N.ts).all := List.take_of_length_le (by omega)
  have hz2 := ord_zero N F
  simp (disch := omega) only [go_sem, seval, reduceCtorEq, d1, ht]
  refine wpN_lp (n) (mkB 61 1152921435887371264) (fun q => [(35, .d (.int q)), (6, .d (.int (pk (dimsR N.ts).1 (ordS N F q).all)))]) (fun q => [(1, osB (dimsR N.ts).1 (.d (ints N.os)) (.d (lvS (ordS N F q))) (.d (.int (ordS N F q).all.length)))]) (h1 := by first | (simp only [go_sem, seval, reduceCtorEq, nz, na, n1, hz2, lvS]; first | done | rfl) | rfl) (h2 := by first | (simp only [go_sem, seval, reduceCtorEq, nz, na, n1, hz2, lvS]; first | done | rfl) | rfl) (hr := fun q hq => ?_)
  unfold L0_impl_OrderPeak
  by_cases hltq : q < n
  ·have d2 : (q : Int) < n := by omega
   have g := stp_cut hF hltq
   have hs := ordStep hok hltq
   have ho := ordOk hok q (by omega)
   have ho1 := ordOk hok (q + 1) (by omega)
   have hnx := hs.nx
   have hfy := orderState_follow_yes (D := (dimsR N.ts).1) (os := N.os) hD ho.ok (by omega) (by omega) hs.fol
   rw [show (F.getD (q * 2) 0).toNat = stA F q from rfl, show (F.getD (q * 2 + 1) 0).toNat = stB F q from rfl, ← hnx] at hfy
   have hnn := nums_step (os := N.os) (a := stA F q) (b := stB F q) ho.ok
   rw [← hnx] at hnn
   have hlast : ∃ L : Nat, (ordS N F (q + 1)).nums.length = L + 1 ∧ ∃ hL : L < (ordS N F (q + 1)).nums.length, (ordS N F (q + 1)).nums[L] = N.ts.length + q := by
    refine ⟨((ordS N F q).nums.filter (Osd.off (stA F q) (stB F q))).length, by rw [hnn]; simp, by rw [hnn]; simp, ?_⟩
    simp [hnn]
   obtain ⟨L, hL1, hL, hL2⟩ := hlast
   have hln := nums_len ho1.ok
   have gl := lvD_get1 (f := (ordS N F (q + 1)).lab) hL
   rw [hL2] at gl
   have hres : (ordS N F (q + 1)).lab (N.ts.length + q) = (ordS N F q).res N.os (stA F q) (stB F q) := by rw [hnx]; exact lab_step_new ho.ok
   have hpk : pk (dimsR N.ts).1 (ordS N F (q + 1)).all = max (pk (dimsR N.ts).1 (ordS N F q).all) (capP (dimsR N.ts).1 ((ordS N F (q + 1)).lab (N.ts.length + q))) := by
    rw [hres, ← pk_snoc, hnx]; rfl
   have hlk := ho1.ok.len (N.ts.length + q)
   have eL : ((ordS N F (q + 1)).nums.length : Int) - 1 = L := by omega
   have iL : (L : Int) < (ordS N F (q + 1)).nums.length := by omega
   simp (disch := omega) only [go_sem, seval, reduceCtorEq, d2, g, dv_two]
   (repeat (refine And.intro (by omega) ?_))
   (refine ti_callcg [1] [] false (of_decide_eq_true rfl) ?_ _ ?_ (hfy) ?_ ?_; (focus (simp only [go_sem, seval, reduceCtorEq, osR, lvS]; done)); (focus (simp only [go_sem, seval, reduceCtorEq, osR, lvS]; done)); (focus (first | rfl | (simp only [go_sem, seval, reduceCtorEq, osR, lvS]; done))))
   simp (disch := omega) only [go_sem, seval, reduceCtorEq, osR, lvS, eL, iL, gl]
   (repeat (refine And.intro (by omega) ?_))
   (refine gi_call (orderState_size_d (T := (dimsR N.ts).1) (os := N.os) (s := ordS N F (q + 1)) hD (by omega) (ho1.ok.at (N.ts.length + q)).2 (ho1.t (N.ts.length + q))) ?_ ?_ ?_; (focus (simp only [go_sem, seval, reduceCtorEq, osP, lvS]; done)); (first | rfl | (focus (simp only [go_sem]; done))))
   simp (disch := omega) only [go_sem, seval, reduceCtorEq]
   (refine Next.drop (mkB 61 1152921435887371264) (by omega) (h1 := ?_) (h2 := ?_) <;> first | (simp only [go_sem, seval, reduceCtorEq, nz, na, n1, hpk, lvS]; first | done | rfl) | rfl | skip)
  ·have d2 : ¬ (q : Int) < n := by omega
   obtain rfl : q = n := by omega
   simp (disch := omega) only [go_sem, seval, reduceCtorEq, d2, e]
   (refine FnEnd.mk (nb rfl) rfl (of_decide_eq_true rfl) ?_ ?_ <;> try simp only [go_sem, seval, reduceCtorEq])
end Go.Proofs.Ytndmbmmnbocmhaa
