/-
  Contracts: costs of orders. No condition.
-/
import Derived.Test.YtjncdanegoileaaMgOrderPeakA
import Derived.Test.YtjncdanegoileaaOrdT
namespace Go.Proofs.Ytjncdanegoileaa
open Go.RowKit Go.Lift Plain
set_option linter.unusedSimpArgs false
set_option linter.unusedVariables false
set_option maxRecDepth 100000

theorem cappedProduct_d {ds : List Int} (h : ds.length ≤ 1048576) (hd : ∀ d ∈ ds, 1 ≤ d ∧ d ≤ 100) : Does Try.prog 128 [.d (ints ds), .d (.int 1000000000)] [] (.d (.int (min (prodI ds) 1000000000))) [] := by
  have h1 : min (prodI (ds.take 0)) 1000000000 = 1 := by simp [prodI]; omega
  (refine spec_of (by kernel_rfl) Try.func128 k_impl_cappedProduct (fnOk (Nat.le_of_ble_eq_true rfl) ?_); unfold C_impl_cappedProduct)
  (simp only [Nat.reduceSub, List.length_cons, List.length_nil, Nat.reduceAdd, ch_init1, ch_init2, ch_init3, ch_init4, ch_init5, ch_init6, ch_init7, ch_init8]; try simp only [ch_rep]); (simp only [go_sem, seval, reduceCtorEq, List.replicate])
  refine wpN_lp (ds.length) [false, false, false, false, false, false, false, true, false, false, false, true, true, true, true, true, true, true, true, true, false] (fun k => [(5, .d (.int (min (prodI (ds.take k)) 1000000000))), (10, .d (.int k))]) (fun k => []) (fun _ => by (simp only [go_sem, seval, reduceCtorEq, dropF_ch, dropF_cons, dropF_nil, cut, cond_true, cond_false]); first | done | rfl) (fun _ => by (simp only [go_sem, seval, reduceCtorEq, cut]); first | done | rfl) (Nat.le_of_ble_eq_true rfl) (by first | (simp only [go_sem, seval, reduceCtorEq, dropF_ch, dropF_cons, dropF_nil, cut, cond_true, cond_false, Int.natCast_zero, Int.natCast_add, Int.natCast_one, h1]; done) | rfl | (simp only [go_sem, seval, reduceCtorEq, dropF_ch, dropF_cons, dropF_nil, cut, cond_true, cond_false, Int.natCast_zero, Int.natCast_add, Int.natCast_one, h1]; rfl)) (by first | (simp only [go_sem, seval, reduceCtorEq, dropF_ch, dropF_cons, dropF_nil, cut, cond_true, cond_false, Int.natCast_zero, Int.natCast_add, Int.natCast_one, h1]; done) | rfl | (simp only [go_sem, seval, reduceCtorEq, dropF_ch, dropF_cons, dropF_nil, cut, cond_true, cond_false, Int.natCast_zero, Int.natCast_add, Int.natCast_one, h1]; rfl)) fun k hk => ?_
  unfold L0_impl_cappedProduct
  by_cases hlt : k < ds.length
  · have d1 : (k : Int) < ds.length := by omega
    have g : ds[k]? = some ds[k] := List.getElem?_eq_getElem hlt
    have hdk := hd ds[k] (List.getElem_mem hlt)
    have hp := prodI_pos (ds.take k) fun d hm => (hd d (List.mem_of_mem_take hm)).1
    have hs := prodI_take_succ ds k hlt
    rw [getD_of hlt] at hs
    have hm := min_mul (prodI (ds.take k)) ds[k] 1000000000 hdk.1 (by omega)
    rw [← hs] at hm
    have hb1 : 0 ≤ min (prodI (ds.take k)) 1000000000 * ds[k] := Int.mul_nonneg (by omega) (by omega)
    have hb2 : min (prodI (ds.take k)) 1000000000 * ds[k] ≤ 1000000000 * 100 := Int.mul_le_mul (by omega) hdk.2 (by omega) (by omega)
    simp (disch := omega) only [go_sem, seval, reduceCtorEq, d1, g]
    (refine Next.drop [false, false, false, false, false, false, false, true, false, false, false, true, true, true, true, true, true, true, true, true, false] (by omega) (Nat.le_of_ble_eq_true rfl) ?_ ?_ <;> first | (simp only [go_sem, seval, reduceCtorEq, dropF_ch, dropF_cons, dropF_nil, cut, cond_true, cond_false, Int.natCast_zero, Int.natCast_add, Int.natCast_one, hm]; done) | rfl | (simp only [go_sem, seval, reduceCtorEq, dropF_ch, dropF_cons, dropF_nil, cut, cond_true, cond_false, Int.natCast_zero, Int.natCast_add, Int.natCast_one, hm]; rfl) | skip)
  · have d1 : ¬ (k : Int) < ds.length := by omega
    have ht : ds.take k = ds := List.take_of_length_le (by omega)
    simp (disch := omega) only [go_sem, seval, reduceCtorEq, d1, ht]
    (refine FnEnd.mk (Nat.le_of_ble_eq_true rfl) rfl (of_decide_eq_true rfl) ?_ ?_ <;> try simp only [go_sem, seval, reduceCtorEq])
theorem orderState_size_d {T os L : List Int} {s : Osd} (hD : T.length = 100) (hl : L.length ≤ 1048576) (hx : ∀ x ∈ L, 0 ≤ x ∧ x ≤ 99) (hT : ∀ x ∈ L, 1 ≤ atT T x ∧ atT T x ≤ 8) :
    Does Try.prog 80 [osP T os s, .d (ints L)] [] (.d (.int (capP T L))) [] := by
  have htk : List.take 100 (dv T) = dv T := List.take_of_length_le (by rw [dv_len]; omega)
  have hml : (L.map (atT T)).length = L.length := List.length_map ..
  have htm : List.take L.length (L.map (atT T)) = L.map (atT T) := List.take_of_length_le (by omega)
  (refine spec_of (by kernel_rfl) Try.func80 k_impl_orderState_size (fnOk (Nat.le_of_ble_eq_true rfl) ?_); unfold C_impl_orderState_size)
  simp only [osP]
  (simp only [Nat.reduceSub, List.length_cons, List.length_nil, Nat.reduceAdd, ch_init1, ch_init2, ch_init3, ch_init4, ch_init5, ch_init6, ch_init7, ch_init8]; try simp only [ch_rep]); (simp only [go_sem, seval, reduceCtorEq, List.replicate])
  simp (disch := omega) only [go_sem, seval, reduceCtorEq, htk]
  (repeat (refine And.intro (by omega) ?_))
  (refine ti_call (axesOf_d (D := T) (L := L) hD hl hx) ?_ ?_ ?_; (focus (simp only [go_sem, seval, reduceCtorEq]; done)); (first | rfl | (focus (simp only [go_sem]; done))))
  simp (disch := omega) only [go_sem, seval, reduceCtorEq]
  (refine ti_call (cappedProduct_d (ds := L.map (atT T)) (by omega) (fun d hd => by obtain ⟨x, hx, rfl⟩ := List.mem_map.1 hd; have := hT x hx; omega)) ?_ ?_ ?_; (focus (simp only [go_sem, seval, reduceCtorEq, hml, htm]; done)); (first | rfl | (focus (simp only [go_sem]; done))))
  simp only [go_sem, seval, reduceCtorEq, capP]
  (refine FnEnd.mk (Nat.le_of_ble_eq_true rfl) rfl (of_decide_eq_true rfl) ?_ ?_ <;> try simp only [go_sem, seval, reduceCtorEq])
/-! ### A valid order, step by step -/
section
variable {N : Net} {n : Nat} {F : List Int}
def stA (F : List Int) (k : Nat) : Nat := (F.getD (k * 2) 0).toNat
def stB (F : List Int) (k : Nat) : Nat := (F.getD (k * 2 + 1) 0).toNat
/-- What is known before step k of a valid order. -/
structure OrdOk (N : Net) (F : List Int) (k : Nat) : Prop where
  ok : OsOk (ordS N F k) (N.ts.length + k)
  t : OsT (dimsR N.ts).1 (ordS N F k)
theorem ord_zero (N : Net) (F : List Int) : ordS N F 0 = osInit N.ts := rfl
structure OrdStep (N : Net) (F : List Int) (k : Nat) : Prop where
  a : F.getD (k * 2) 0 = stA F k
  b : F.getD (k * 2 + 1) 0 = stB F k
  ma : stA F k ∈ (ordS N F k).nums
  mb : stB F k ∈ (ordS N F k).nums
  lt : stA F k < stB F k
  nx : ordS N F (k + 1) = (ordS N F k).step N.os (stA F k) (stB F k)
  fol : followB (ordS N F k) (F.getD (k * 2) 0) (F.getD (k * 2 + 1) 0) = true
theorem ordStep (h : orderOk N n F = true) {k : Nat} (hk : k < n) : OrdStep N F k := by
  have h2 := (orderOk_iff.1 h).2.2
  have hf := ordTo_fol h2 hk
  obtain ⟨a, b, e1, e2, ha, hb, hab⟩ := followB_nat hf
  have ea : stA F k = a := by rw [stA, e1]; rfl
  have eb : stB F k = b := by rw [stB, e2]; rfl
  have hy := congrArg Prod.fst (ordTo_yes (ordTo_down h2 (Nat.le_of_lt hk)) hf)
  exact ⟨by rw [ea, e1], by rw [eb, e2], by rw [ea]; exact ha, by rw [eb]; exact hb, by rw [ea, eb]; exact hab, hy, hf⟩
theorem ordOk (h : orderOk N n F = true) : ∀ k, k ≤ n → OrdOk N F k
  | 0, _ => ⟨osInit_ok (netOk_ax (orderOk_iff.1 h).1), osInit_T (orderOk_iff.1 h).1⟩
  | k + 1, hk => by
    have ih := ordOk h k (by omega)
    have hs := ordStep h (show k < n by omega)
    exact ⟨by rw [hs.nx]; exact ih.ok.step _ _ _, by rw [hs.nx]; exact OsT.step ih.ok ih.t⟩
theorem OrdStep.at {k : Nat} (h : OrdStep N F k) (ho : OrdOk N F k) : stA F k < N.ts.length + k ∧ stB F k < N.ts.length + k := by
  have hn := ho.ok.n
  have h1 := (nums_mem.1 h.ma).1
  have h2 := (nums_mem.1 h.mb).1
  omega
/-- The cost of step k. -/
def costAt (N : Net) (F : List Int) (k : Nat) : Int := capP (dimsR N.ts).1 (joinL ((ordS N F k).lab (stA F k)) ((ordS N F k).lab (stB F k)))
def costsTo (N : Net) (F : List Int) (k : Nat) : List Int := (List.range k).map (costAt N F)
theorem costsTo_len (k : Nat) : (costsTo N F k).length = k := by simp [costsTo]
theorem costsTo_next (k : Nat) : costsTo N F (k + 1) = costsTo N F k ++ [costAt N F k] := by simp [costsTo, List.range_succ]
end
theorem l17Run_d {N : Net} {n : Nat} {F : List Int} (h : NSz 1048576 N) (hF : StpSz 1048576 n F) (hok : orderOk N n F = true) :
    Does Try.prog 127 [netA N, .d (stp n F)] [] (.tup [.ptr 0 0, .own 3 0 n])
      [some ⟨0, false, [.own 1 0 (ordS N F n).all.length, .own 2 0 (ordS N F n).gone.length]⟩, some ⟨3, true, shA (dimsR N.ts).1 (ordS N F n).all⟩, some ⟨1, true, bv (ordS N F n).gone⟩, some ⟨1, true, iv (costsTo N F n)⟩] := by
  have hn := hF.n
  have hFl := hF.l
  have hol := h.o.len
  obtain ⟨h1, h2, _⟩ := orderOk_iff.1 hok
  have h12 := (netOk_iff.1 h1).2.1
  (refine spec_of (by kernel_rfl) Try.func127 k_spec_l17Run (fnOk (Nat.le_of_ble_eq_true rfl) ?_); unfold C_spec_l17Run)
  (simp only [Nat.reduceSub, List.length_cons, List.length_nil, Nat.reduceAdd, ch_init1, ch_init2, ch_init3, ch_init4, ch_init5, ch_init6, ch_init7, ch_init8]; try simp only [ch_rep]); (simp only [go_sem, seval, reduceCtorEq, List.replicate])
  (refine ti_call (l17New_d h h1) ?_ ?_ ?_; (focus (simp only [go_sem, seval, reduceCtorEq, stoQ]; done)); (first | rfl | (focus (simp only [go_sem]; done))))
  simp only [go_sem, seval, reduceCtorEq, stoQ]
  have hz : costsTo N F 0 = [] := rfl
  have hz2 := ord_zero N F
  refine wpN_lp (n) [false, false, false, false, false, false, false, false, false, true, false, false, true, false, false, false, true, true, true, true, true, true, true, true, true, true, true, true, false, false] (fun k => [(15, .d (.int k)), (7, .own 4 0 k)]) (fun k => [(1, [.own 2 0 (ordS N F k).all.length, .own 3 0 (ordS N F k).gone.length]), (2, shA (dimsR N.ts).1 (ordS N F k).all), (3, bv (ordS N F k).gone), (4, iv (costsTo N F k))]) (fun _ => by (simp only [go_sem, seval, reduceCtorEq, dropF_ch, dropF_cons, dropF_nil, cut, cond_true, cond_false]); first | done | rfl) (fun _ => by (simp only [go_sem, seval, reduceCtorEq, cut]); first | done | rfl) (Nat.le_of_ble_eq_true rfl) (by first | (simp only [go_sem, seval, reduceCtorEq, dropF_ch, dropF_cons, dropF_nil, cut, cond_true, cond_false, Int.natCast_zero, Int.natCast_add, Int.natCast_one, hz, hz2, iv_nil]; done) | rfl | (simp only [go_sem, seval, reduceCtorEq, dropF_ch, dropF_cons, dropF_nil, cut, cond_true, cond_false, Int.natCast_zero, Int.natCast_add, Int.natCast_one, hz, hz2, iv_nil]; rfl)) (by first | (simp only [go_sem, seval, reduceCtorEq, dropF_ch, dropF_cons, dropF_nil, cut, cond_true, cond_false, Int.natCast_zero, Int.natCast_add, Int.natCast_one, hz, hz2, iv_nil]; done) | rfl | (simp only [go_sem, seval, reduceCtorEq, dropF_ch, dropF_cons, dropF_nil, cut, cond_true, cond_false, Int.natCast_zero, Int.natCast_add, Int.natCast_one, hz, hz2, iv_nil]; rfl)) fun k hk => ?_
  unfold L0_spec_l17Run
  have hcl := costsTo_len (N := N) (F := F) k
  by_cases hlt : k < n
  · have d1 : (k : Int) < n := by omega
    have g := stp_cut hF hlt
    have hs := ordStep hok hlt
    have ho := ordOk hok k (by omega)
    have ht := hs.at ho
    have hnx := hs.nx
    have hcn := costsTo_next (N := N) (F := F) k
    have hca : capP (dimsR N.ts).1 (joinL ((ordS N F k).lab (stA F k)) ((ordS N F k).lab (stB F k))) = costAt N F k := rfl
    rw [hs.a, hs.b] at g
    simp (disch := omega) only [go_sem, seval, reduceCtorEq, d1, g, dv_two]
    (repeat (refine And.intro (by omega) ?_))
    (refine ti_callcg [1, 2, 3] [2, 3] false (of_decide_eq_true rfl) ?_ _ ?_ (l17Step_d (T := (dimsR N.ts).1) (os := N.os) (s := ordS N F k) (a := stA F k) (b := stB F k) ho.ok (by omega) (by omega) ht.1 ht.2 (fun i _ => ho.t i)) ?_ ?_; (focus (simp only [go_sem, seval, reduceCtorEq, stoQ]; done)); (focus (simp only [go_sem, seval, reduceCtorEq, stoQ]; done)); (focus (first | rfl | (simp only [go_sem, seval, reduceCtorEq, stoQ]; done))))
    simp (disch := omega) only [go_sem, seval, reduceCtorEq, stoQ, hca, ← hnx]
    (repeat (refine And.intro (by omega) ?_))
    (refine Next.drop [false, false, false, false, false, false, false, false, false, true, false, false, true, false, false, false, true, true, true, true, true, true, true, true, true, true, true, true, false, false] (by omega) (Nat.le_of_ble_eq_true rfl) ?_ ?_ <;> first | (simp only [go_sem, seval, reduceCtorEq, dropF_ch, dropF_cons, dropF_nil, cut, cond_true, cond_false, Int.natCast_zero, Int.natCast_add, Int.natCast_one, hcn]; done) | rfl | (simp only [go_sem, seval, reduceCtorEq, dropF_ch, dropF_cons, dropF_nil, cut, cond_true, cond_false, Int.natCast_zero, Int.natCast_add, Int.natCast_one, hcn]; rfl) | skip)
  · have d1 : ¬ (k : Int) < n := by omega
    obtain rfl : k = n := by omega
    simp (disch := omega) only [go_sem, seval, reduceCtorEq, d1]
    (refine FnEnd.mkI [1, 2, 3, 4] (Nat.le_of_ble_eq_true rfl) rfl (of_decide_eq_true rfl) rfl ?_ ?_ <;> try simp only [go_sem, seval, reduceCtorEq])
/-! ### By the program -/
end Go.Proofs.Ytjncdanegoileaa
