/-
 Plain: all labels of a state have dimensions. No condition.
-/
import Derived.Test.YtmkdphmjgfbjaaaOrdB
import Derived.Test.YtmkdphmjgfbjaaaOrdC
set_option linter.unusedSimpArgs false
set_option linter.unusedVariables false
namespace Go.Proofs.Ytmkdphmjgfbjaaa
open Go.RowKit Go.Lift Plain
set_option maxRecDepth 100000
def OsT (T : List Int) (s : Osd) : Prop := ∀ i, ∀ x ∈ s.lab i, 1 ≤ atT T x ∧ atT T x ≤ 8
section
variable {T os : List Int} {s : Osd} {m a b : Nat}
theorem OsT.res (h : OsT T s) : ∀ x ∈ s.res os a b, 1 ≤ atT T x ∧ atT T x ≤ 8 := fun x hx =>
 (mem_joinL.1 (List.mem_filter.1 hx).1).elim (h a x) (h b x)
theorem OsT.join (h : OsT T s) : ∀ x ∈ joinL (s.lab a) (s.lab b), 1 ≤ atT T x ∧ atT T x ≤ 8 := fun x hx => (mem_joinL.1 hx).elim (h a x) (h b x)
theorem OsT.step (hs : OsOk s m) (h : OsT T s) : OsT T (s.step os a b) := fun i x hx => by
 rcases Nat.lt_trichotomy i m with hi | rfl | hi
 ·rw [lab_step hs hi] at hx; exact h i x hx
 ·rw [lab_step_new hs] at hx; exact h.res x hx
 ·have : (s.step os a b).lab i = [] := by
   have := (hs.step os a b).n
   unfold Osd.lab
   rw [List.getD_eq_getElem?_getD, List.getElem?_eq_none (by omega)]; rfl
  rw [this] at hx; cases hx
theorem osInit_T {N : Net} (h : netOk N = true) : OsT (dimsR N.ts).1 (osInit N.ts) := fun i x hx => by
 by_cases hi : i < N.ts.length
 ·rw [osInit_lab hi] at hx
  have hd := dims_net h (List.getElem_mem hi)
  have : atT (dimsR N.ts).1 x ∈ N.ts[i].dims := by rw [← hd]; exact List.mem_map_of_mem hx
  have := (netOk_ax h _ (List.getElem_mem hi)).dim _ this
  omega
 ·have : (osInit N.ts).lab i = [] := by
   unfold Osd.lab
   rw [List.getD_eq_getElem?_getD, List.getElem?_eq_none (by simp [osInit]; omega)]; rfl
  rw [this] at hx; cases hx
theorem capP_bd (L : List Int) (h : ∀ x ∈ L, 1 ≤ atT T x ∧ atT T x ≤ 8) : 1 ≤ capP T L ∧ capP T L ≤ 1000000000 := by
 have := prodI_pos (L.map (atT T)) fun d hd => by obtain ⟨x, hx, rfl⟩ := List.mem_map.1 hd; exact (h x hx).1
 unfold capP
 omega
end
set_option maxRecDepth 100000
section
variable {N : Net} {n : Nat} {F : List Int}
def stA (F : List Int) (k : Nat) : Nat := (F.getD (k * 2) 0).toNat
def stB (F : List Int) (k : Nat) : Nat := (F.getD (k * 2 + 1) 0).toNat
structure OrdOk (N : Net) (F : List Int) (k : Nat) : Prop where
 ok : OsOk (ordS N F k) (N.ts.length + k)
 t : OsT (dimsR N.ts).1 (ordS N F k)
theorem ord_zero (N : Net) (F : List Int) : ordS N F 0 = osInit N.ts := rfl
structure OrdStep (N : Net) (F : List Int) (k : Nat) : Prop where
 a : F.getD (k * 2) 0 = stA F k
 b : F.getD (k * 2 + 1) 0 = stB F k
 ma : stA F k ∈ (ordS N F k).nums
 mb : stB F k ∈ (ordS N F k).nums
 lt : stA F k < stB F k
 nx : ordS N F (k + 1) = (ordS N F k).step N.os (stA F k) (stB F k)
 fol : followB (ordS N F k) (F.getD (k * 2) 0) (F.getD (k * 2 + 1) 0) = true
theorem ordStep (h : orderOk N n F = true) {k : Nat} (hk : k < n) : OrdStep N F k := by
 have h2 := (orderOk_iff.1 h).2.2
 have hf := ordTo_fol h2 hk
 obtain ⟨a, b, e1, e2, ha, hb, hab⟩ := followB_nat hf
 have ea : stA F k = a := by rw [stA, e1]; rfl
 have eb : stB F k = b := by rw [stB, e2]; rfl
 have hy := congrArg Prod.fst (ordTo_yes (ordTo_down h2 (Nat.le_of_lt hk)) hf)
 exact ⟨by rw [ea, e1], by rw [eb, e2], by rw [ea]; exact ha, by rw [eb]; exact hb, by rw [ea, eb]; exact hab, hy, hf⟩
theorem ordOk (h : orderOk N n F = true) : ∀ k, k ≤ n → OrdOk N F k
 | 0, _ => ⟨osInit_ok (netOk_ax (orderOk_iff.1 h).1), osInit_T (orderOk_iff.1 h).1⟩
 | k + 1, hk => by
  have ih := ordOk h k (by omega)
  have hs := ordStep h (show k < n by omega)
  exact ⟨by rw [hs.nx]; exact ih.ok.step _ _ _, by rw [hs.nx]; exact OsT.step ih.ok ih.t⟩
theorem OrdStep.at {k : Nat} (h : OrdStep N F k) (ho : OrdOk N F k) : stA F k < N.ts.length + k ∧ stB F k < N.ts.length + k := by
 have hn := ho.ok.n
 have h1 := (nums_mem.1 h.ma).1
 have h2 := (nums_mem.1 h.mb).1
 omega
end
set_option maxRecDepth 100000
theorem cappedProduct_d {ds : List Int} (h : ds.length ≤ 1048576) (hd : ∀ d ∈ ds, 1 ≤ d ∧ d ≤ 100) : Does Try.prog 47 [.d (ints ds), .d (.int 1000000000)] [] (.d (.int (min (prodI ds) 1000000000))) [] := by
 have h1 : min (prodI (ds.take 0)) 1000000000 = 1 := by simp [prodI]; omega
 (refine spec_of (by kernel_rfl) Try.func47 k_impl_cappedProduct (fnOk (nb rfl) ?_); unfold C_impl_cappedProduct)
 (simp only [Nat.reduceSub, List.length_cons, List.length_nil, Nat.reduceAdd, ch_init1, ch_init2, ch_init3, ch_init4, ch_init5, ch_init6, ch_init7, ch_init8]; try simp only [ch_rep]); (simp only [go_sem, seval, reduceCtorEq, List.replicate])
 refine wpN_lp (ds.length) (mkB 21 1046656) (fun k => [(5, .d (.int (min (prodI (ds.take k)) 1000000000))), (10, .d (.int k))]) (fun k => []) (h1 := by first | (simp only [go_sem, seval, reduceCtorEq, nz, na, n1, h1]; first | done | rfl) | rfl) (h2 := by first | (simp only [go_sem, seval, reduceCtorEq, nz, na, n1, h1]; first | done | rfl) | rfl) (hr := fun k hk => ?_)
 unfold L0_impl_cappedProduct
 by_cases hlt : k < ds.length
 ·have d1 : (k : Int) < ds.length := by omega
  have g : ds[k]? = some ds[k] := List.getElem?_eq_getElem hlt
  have hdk := hd ds[k] (List.getElem_mem hlt)
  have hp := prodI_pos (ds.take k) fun d hm => (hd d (List.mem_of_mem_take hm)).1
  have hs := prodI_take_succ ds k hlt
  rw [getD_of hlt] at hs
  have hm := min_mul (prodI (ds.take k)) ds[k] 1000000000 hdk.1 (by omega)
  rw [← hs] at hm
  have hb1 : 0 ≤ min (prodI (ds.take k)) 1000000000 * ds[k] := Int.mul_nonneg (by omega) (by omega)
  have hb2 : min (prodI (ds.take k)) 1000000000 * ds[k] ≤ 1000000000 * 100 := Int.mul_le_mul (by omega) hdk.2 (by omega) (by omega)
  simp (disch := omega) only [go_sem, seval, reduceCtorEq, d1, g]
  (refine Next.drop (mkB 21 1046656) (by omega) (h1 := ?_) (h2 := ?_) <;> first | (simp only [go_sem, seval, reduceCtorEq, nz, na, n1, hm]; first | done | rfl) | rfl | skip)
 ·have d1 : ¬ (k : Int) < ds.length := by omega
  have ht : ds.take k = ds := List.take_of_length_le (by omega)
  simp (disch := omega) only [go_sem, seval, reduceCtorEq, d1, ht]
  (refine FnEnd.mk (nb rfl) rfl (of_decide_eq_true rfl) ?_ ?_ <;> try simp only [go_sem, seval, reduceCtorEq])
theorem orderState_size_d {T os L : List Int} {s : Osd} (hD : T.length = 100) (hl : L.length ≤ 1048576) (hx : ∀ x ∈ L, 0 ≤ x ∧ x ≤ 99) (hT : ∀ x ∈ L, 1 ≤ atT T x ∧ atT T x ≤ 8) :
  Does Try.prog 34 [osP T os s, .d (ints L)] [] (.d (.int (capP T L))) [] := by
 have htk : List.take 100 (dv T) = dv T := List.take_of_length_le (by rw [dv_len]; omega)
 have hml : (L.map (atT T)).length = L.length := List.length_map ..
 have htm : List.take L.length (L.map (atT T)) = L.map (atT T) := List.take_of_length_le (by omega)
 (refine spec_of (by kernel_rfl) Try.func34 k_impl_orderState_size (fnOk (nb rfl) ?_); unfold C_impl_orderState_size)
 simp only [osP]
 (simp only [Nat.reduceSub, List.length_cons, List.length_nil, Nat.reduceAdd, ch_init1, ch_init2, ch_init3, ch_init4, ch_init5, ch_init6, ch_init7, ch_init8]; try simp only [ch_rep]); (simp only [go_sem, seval, reduceCtorEq, List.replicate])
 simp (disch := omega) only [go_sem, seval, reduceCtorEq, htk]
 (repeat (refine And.intro (by omega) ?_))
 (refine ti_call (axesOf_d (D := T) (L := L) hD hl hx) ?_ ?_ ?_; (focus (simp only [go_sem, seval, reduceCtorEq]; done)); (first | rfl | (focus (simp only [go_sem]; done))))
 simp (disch := omega) only [go_sem, seval, reduceCtorEq]
 (refine ti_call (cappedProduct_d (ds := L.map (atT T)) (by omega) (fun d hd => by obtain ⟨x, hx, rfl⟩ := List.mem_map.1 hd; have := hT x hx; omega)) ?_ ?_ ?_; (focus (simp only [go_sem, seval, reduceCtorEq, hml, htm]; done)); (first | rfl | (focus (simp only [go_sem]; done))))
 simp only [go_sem, seval, reduceCtorEq, capP]
 (refine FnEnd.mk (nb rfl) rfl (of_decide_eq_true rfl) ?_ ?_ <;> try simp only [go_sem, seval, reduceCtorEq])
set_option maxRecDepth 100000
section
variable {N : Net} {n : Nat} {F : List Int}
def costAt (N : Net) (F : List Int) (k : Nat) : Int := capP (dimsR N.ts).1 (joinL ((ordS N F k).lab (stA F k)) ((ordS N F k).lab (stB F k)))
def costsTo (N : Net) (F : List Int) (k : Nat) : List Int := (List.range k).map (costAt N F)
theorem costsTo_len (k : Nat) : (costsTo N F k).length = k := by simp [costsTo]
theorem costsTo_next (k : Nat) : costsTo N F (k + 1) = costsTo N F k ++ [costAt N F k] := by simp [costsTo, List.range_succ]
theorem costAt_bd (h : orderOk N n F = true) {k : Nat} (hk : k ≤ n) : 1 ≤ costAt N F k ∧ costAt N F k ≤ 1000000000 := capP_bd _ (ordOk h k hk).t.join
end
noncomputable def orderCost (N : Net) (n : Nat) (F : List Int) : Int := if orderOk N n F = true then min (sumI (costsTo N F n)) 1000000000 else -1
theorem place_num {s : Osd} {a : Nat} (h : a ∈ s.nums) : ∃ i : Nat, ∃ hi : i < s.nums.length, s.nums[i] = a ∧ place (natI s.nums) a = i := by
 obtain ⟨i, hi, hia⟩ := List.mem_iff_getElem.1 h
 refine ⟨i, hi, hia, ?_⟩
 have hq' : i < (natI s.nums).length := by rw [natI_len]; exact hi
 have := place_at hq' (fresh_of (natI_nodup (nums_nodup s)) hq')
 rwa [natI_get hi, hia] at this
theorem iOrderCosts_d {N : Net} {n : Nat} {F : List Int} (h : NSz 1048576 N) (hF : StpSz 1048576 n F) (hok : orderOk N n F = true) :
  Does Try.prog 19 [netA N, .d (stp n F)] [] (.own 0 0 n) [some ⟨1, true, iv (costsTo N F n)⟩] := by
 have hn := hF.n
 have hFl := hF.l
 have hol := h.o.len
 obtain ⟨h1, h2, _⟩ := orderOk_iff.1 hok
 have h12 := (netOk_iff.1 h1).2.1
 have hD := dimsR_len N.ts
 (refine spec_of (by kernel_rfl) Try.func19 k_impl_OrderCosts (fnOk (nb rfl) ?_); unfold C_impl_OrderCosts)
 (simp only [Nat.reduceSub, List.length_cons, List.length_nil, Nat.reduceAdd, ch_init1, ch_init2, ch_init3, ch_init4, ch_init5, ch_init6, ch_init7, ch_init8]; try simp only [ch_rep]); (simp only [go_sem, seval, reduceCtorEq, List.replicate])
 (refine ti_call (iOrderOk_d h hF) ?_ ?_ ?_; (focus (simp only [go_sem, seval, reduceCtorEq]; done)); (first | rfl | (focus (simp only [go_sem]; done))))
 simp only [go_sem, seval, reduceCtorEq, hok]
 (refine ti_call (startState_d h h1) ?_ ?_ ?_; (focus (simp only [go_sem, seval, reduceCtorEq, osR, lvS]; done)); (first | rfl | (focus (simp only [go_sem]; done))))
 simp only [go_sem, seval, reduceCtorEq, osR, lvS]
 (refine wpN_lwk (Wk.nilE 5 1 _ _ rfl) ?_; simp only [go_sem, seval, reduceCtorEq])
 have hz : costsTo N F 0 = [] := rfl
 have hz2 := ord_zero N F
 refine wpN_lp (n) (mkB 59 288230376150664960) (fun k => [(19, .d (.int k)), (5, .own 2 0 k)]) (fun k => [(1, osB (dimsR N.ts).1 (.d (ints N.os)) (.d (lvS (ordS N F k))) (.d (.int (ordS N F k).all.length))), (2, iv (costsTo N F k))]) (h1 := by first | (simp only [go_sem, seval, reduceCtorEq, nz, na, n1, hz, hz2, iv_nil, lvS]; first | done | rfl) | rfl) (h2 := by first | (simp only [go_sem, seval, reduceCtorEq, nz, na, n1, hz, hz2, iv_nil, lvS]; first | done | rfl) | rfl) (hr := fun k hk => ?_)
 unfold L0_impl_OrderCosts
 have hcl := costsTo_len (N := N) (F := F) k
 by_cases hlt : k < n
 ·have d1 : (k : Int) < n := by omega
  have g := stp_cut hF hlt
  have hs := ordStep hok hlt
  have ho := ordOk hok k (by omega)
  have ht := hs.at ho
  have hnx := hs.nx
  have hcn := costsTo_next (N := N) (F := F) k
  have hca : capP (dimsR N.ts).1 (joinL ((ordS N F k).lab (stA F k)) ((ordS N F k).lab (stB F k))) = costAt N F k := rfl
  rw [hs.a, hs.b] at g
  obtain ⟨i, hi, hia, pi⟩ := place_num hs.ma
  obtain ⟨j, hj, hjb, pj⟩ := place_num hs.mb
  have hnl := nums_len ho.ok
  have gi := lvD_get1 (f := (ordS N F k).lab) hi
  have gj := lvD_get1 (f := (ordS N F k).lab) hj
  rw [hia] at gi
  rw [hjb] at gj
  have la := ho.ok.len (stA F k)
  have lb := ho.ok.len (stB F k)
  obtain ⟨hjn, hjx, hjl⟩ := ho.ok.join (stA F k) (stB F k)
  have hjT := ho.t.join (a := stA F k) (b := stB F k)
  have ii : (i : Int) < (ordS N F k).nums.length := by omega
  have ij : (j : Int) < (ordS N F k).nums.length := by omega
  have hct := orderState_contract_d (D := (dimsR N.ts).1) (os := N.os) (s := ordS N F k) hD ho.ok (by omega) (by omega) hi hj
  rw [hia, hjb, ← hnx] at hct
  simp (disch := omega) only [go_sem, seval, reduceCtorEq, d1, g, dv_two]
  (repeat (refine And.intro (by omega) ?_))
  (refine gi_call (orderState_place_d (D := (dimsR N.ts).1) (os := N.os) (s := ordS N F k) (x := stA F k) hD ho.ok (by omega)) ?_ ?_ ?_; (focus (simp only [go_sem, seval, reduceCtorEq, osP]; done)); (first | rfl | (focus (simp only [go_sem]; done))))
  simp only [go_sem, seval, reduceCtorEq, pi]
  (refine ti_call (orderState_place_d (D := (dimsR N.ts).1) (os := N.os) (s := ordS N F k) (x := stB F k) hD ho.ok (by omega)) ?_ ?_ ?_; (focus (simp only [go_sem, seval, reduceCtorEq, osP]; done)); (first | rfl | (focus (simp only [go_sem]; done))))
  simp (disch := omega) only [go_sem, seval, reduceCtorEq, pj, lvS, ii, ij, gi, gj]
  (refine gi_call (joinLabels_d (a := (ordS N F k).lab (stA F k)) (b := (ordS N F k).lab (stB F k)) (by omega) (by omega)) ?_ ?_ ?_; (focus (simp only [go_sem, seval, reduceCtorEq]; done)); (first | rfl | (focus (simp only [go_sem]; done))))
  simp only [go_sem, seval, reduceCtorEq]
  (refine gi_call (orderState_size_d (T := (dimsR N.ts).1) (os := N.os) (s := ordS N F k) hD (by omega) hjx hjT) ?_ ?_ ?_; (focus (simp only [go_sem, seval, reduceCtorEq, osP, lvS]; done)); (first | rfl | (focus (simp only [go_sem]; done))))
  simp (disch := omega) only [go_sem, seval, reduceCtorEq, hca]
  (repeat (refine And.intro (by omega) ?_))
  (refine ti_callcg [1] [] false (of_decide_eq_true rfl) ?_ _ ?_ (hct) ?_ ?_; (focus (simp only [go_sem, seval, reduceCtorEq, osR, lvS]; done)); (focus (simp only [go_sem, seval, reduceCtorEq, osR, lvS]; done)); (focus (first | rfl | (simp only [go_sem, seval, reduceCtorEq, osR, lvS]; done))))
  simp (disch := omega) only [go_sem, seval, reduceCtorEq, osR, lvS]
  (refine Next.drop (mkB 59 288230376150664960) (by omega) (h1 := ?_) (h2 := ?_) <;> first | (simp only [go_sem, seval, reduceCtorEq, nz, na, n1, hcn, lvS]; first | done | rfl) | rfl | skip)
 ·have d1 : ¬ (k : Int) < n := by omega
  obtain rfl : k = n := by omega
  simp (disch := omega) only [go_sem, seval, reduceCtorEq, d1]
  (refine FnEnd.mk (nb rfl) rfl (of_decide_eq_true rfl) ?_ ?_ <;> try simp only [go_sem, seval, reduceCtorEq])
theorem iOrderCost_d {N : Net} {n : Nat} {F : List Int} (h : NSz 1048576 N) (hF : StpSz 1048576 n F) :
  Does Try.prog 10 [netA N, .d (stp n F)] [] (.d (.int (orderCost N n F))) [] := by
 have hn := hF.n
 have hcl := costsTo_len (N := N) (F := F) n
 (refine spec_of (by kernel_rfl) Try.func10 k_impl_OrderCost (fnOk (nb rfl) ?_); unfold C_impl_OrderCost)
 (simp only [Nat.reduceSub, List.length_cons, List.length_nil, Nat.reduceAdd, ch_init1, ch_init2, ch_init3, ch_init4, ch_init5, ch_init6, ch_init7, ch_init8]; try simp only [ch_rep]); (simp only [go_sem, seval, reduceCtorEq, List.replicate])
 (refine ti_call (iOrderOk_d h hF) ?_ ?_ ?_; (focus (simp only [go_sem, seval, reduceCtorEq]; done)); (first | rfl | (focus (simp only [go_sem]; done))))
 cases hok : orderOk N n F
 ·have e : orderCost N n F = -1 := by rw [orderCost, hok]; rfl
  simp only [go_sem, seval, reduceCtorEq, hok, e]
  (refine FnEnd.mk (nb rfl) rfl (of_decide_eq_true rfl) ?_ ?_ <;> try simp only [go_sem, seval, reduceCtorEq])
 have e : orderCost N n F = min (sumI (costsTo N F n)) 1000000000 := by rw [orderCost, if_pos hok]
 have hcb : ∀ x ∈ costsTo N F n, 0 ≤ x ∧ x ≤ 1000000000 := fun x hx => by
  obtain ⟨k, hk, rfl⟩ := List.mem_map.1 hx
  have := costAt_bd hok (k := k) (by have := List.mem_range.1 hk; omega)
  omega
 have h2 := (orderOk_iff.1 hok).2.1
 have h12 := (netOk_iff.1 (orderOk_iff.1 hok).1).2.1
 simp only [go_sem, seval, reduceCtorEq, hok]
 (refine ti_call (iOrderCosts_d h hF hok) ?_ ?_ ?_; (focus (simp only [go_sem, seval, reduceCtorEq]; done)); (first | rfl | (focus (simp only [go_sem]; done))))
 have hz : sumI ((costsTo N F n).take 0) = 0 := by rw [List.take_zero]; rfl
 simp only [go_sem, seval, reduceCtorEq]
 refine wpN_lp (n) (mkB 26 16646272) (fun k => [(5, .d (.int (sumI ((costsTo N F n).take k)))), (16, .d (.int k))]) (fun k => []) (h1 := by first | (simp only [go_sem, seval, reduceCtorEq, nz, na, n1, hz]; first | done | rfl) | rfl) (h2 := by first | (simp only [go_sem, seval, reduceCtorEq, nz, na, n1, hz]; first | done | rfl) | rfl) (hr := fun k hk => ?_)
 unfold L0_impl_OrderCost
 have hsb : ∀ q, q ≤ n → sumI ((costsTo N F n).take q) ≤ q * 1000000000 := fun q => by
  induction q with
  | zero => intro _; rw [hz]; omega
  | succ q ih =>
   intro hq
   have := ih (by omega)
   have hb := hcb _ (List.getElem_mem (show q < (costsTo N F n).length by omega))
   rw [take_ss (by omega), sumI_app]
   simp only [sumI_cons, sumI_nil]
   push_cast
   omega
 have hb0 := hsb k hk
 have h3 := sumI_nn ((costsTo N F n).take k) fun x hx => (hcb x (List.mem_of_mem_take hx)).1
 by_cases hlt : k < n
 ·have d1 : (k : Int) < n := by omega
  have hk' : k < (costsTo N F n).length := by omega
  have g : (costsTo N F n)[k]? = some (costsTo N F n)[k] := List.getElem?_eq_getElem hk'
  have hb := hcb _ (List.getElem_mem hk')
  have hm : sumI ((costsTo N F n).take k) + (costsTo N F n)[k] = sumI ((costsTo N F n).take (k + 1)) := by
   rw [take_ss hk', sumI_app]
   simp only [sumI_cons, sumI_nil]
   omega
  simp (disch := omega) only [go_sem, seval, reduceCtorEq, d1, g]
  (refine Next.drop (mkB 26 16646272) (by omega) (h1 := ?_) (h2 := ?_) <;> first | (simp only [go_sem, seval, reduceCtorEq, nz, na, n1, hm]; first | done | rfl) | rfl | skip)
 ·have d1 : ¬ (k : Int) < n := by omega
  have ht : (costsTo N F n).take k = costsTo N F n := List.take_of_length_le (by omega)
  simp (disch := omega) only [go_sem, seval, reduceCtorEq, d1, ht, e]
  (refine FnEnd.mk (nb rfl) rfl (of_decide_eq_true rfl) ?_ ?_ <;> try simp only [go_sem, seval, reduceCtorEq])
end Go.Proofs.Ytmkdphmjgfbjaaa
