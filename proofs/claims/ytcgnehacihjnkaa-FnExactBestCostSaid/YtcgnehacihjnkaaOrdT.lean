/-
  Plain: all labels of a state have dimensions. No condition.
-/
import Derived.Test.YtcgnehacihjnkaaOrdB
import Derived.Test.YtcgnehacihjnkaaOrdC
namespace Go.Proofs.Ytcgnehacihjnkaa
open Go.RowKit Go.Lift Plain
set_option linter.unusedSimpArgs false
set_option linter.unusedVariables false
set_option maxRecDepth 100000

def OsT (T : List Int) (s : Osd) : Prop := ∀ i, ∀ x ∈ s.lab i, 1 ≤ atT T x ∧ atT T x ≤ 8
section
variable {T os : List Int} {s : Osd} {m a b : Nat}
theorem OsT.res (h : OsT T s) : ∀ x ∈ s.res os a b, 1 ≤ atT T x ∧ atT T x ≤ 8 := fun x hx =>
  (mem_joinL.1 (List.mem_filter.1 hx).1).elim (h a x) (h b x)
theorem OsT.join (h : OsT T s) : ∀ x ∈ joinL (s.lab a) (s.lab b), 1 ≤ atT T x ∧ atT T x ≤ 8 := fun x hx => (mem_joinL.1 hx).elim (h a x) (h b x)
theorem OsT.step (hs : OsOk s m) (h : OsT T s) : OsT T (s.step os a b) := fun i x hx => by
  rcases Nat.lt_trichotomy i m with hi | rfl | hi
  · rw [lab_step hs hi] at hx; exact h i x hx
  · rw [lab_step_new hs] at hx; exact h.res x hx
  · have : (s.step os a b).lab i = [] := by
      have := (hs.step os a b).n
      unfold Osd.lab
      rw [List.getD_eq_getElem?_getD, List.getElem?_eq_none (by omega)]; rfl
    rw [this] at hx; cases hx
theorem capP_bd (L : List Int) (h : ∀ x ∈ L, 1 ≤ atT T x ∧ atT T x ≤ 8) : 1 ≤ capP T L ∧ capP T L ≤ 1000000000 := by
  have := prodI_pos (L.map (atT T)) fun d hd => by obtain ⟨x, hx, rfl⟩ := List.mem_map.1 hd; exact (h x hx).1
  unfold capP
  omega
end
end Go.Proofs.Ytcgnehacihjnkaa

/-
  Contracts: sizes. No condition.
-/
namespace Go.Proofs.Ytcgnehacihjnkaa
open Go.RowKit Go.Lift Plain
set_option linter.unusedSimpArgs false
set_option linter.unusedVariables false
set_option maxRecDepth 100000

theorem cappedProduct_d {ds : List Int} (h : ds.length ≤ 1048576) (hd : ∀ d ∈ ds, 1 ≤ d ∧ d ≤ 100) : Does Try.prog 148 [.d (ints ds), .d (.int 1000000000)] [] (.d (.int (min (prodI ds) 1000000000))) [] := by
  have h1 : min (prodI (ds.take 0)) 1000000000 = 1 := by simp [prodI]; omega
  (refine spec_of (by kernel_rfl) Try.func148 k_impl_cappedProduct (fnOk (Nat.le_of_ble_eq_true rfl) ?_); unfold C_impl_cappedProduct)
  (simp only [Nat.reduceSub, List.length_cons, List.length_nil, Nat.reduceAdd, ch_init1, ch_init2, ch_init3, ch_init4, ch_init5, ch_init6, ch_init7, ch_init8]; try simp only [ch_rep]); (simp only [go_sem, seval, reduceCtorEq, List.replicate])
  refine wpN_lp (ds.length) [false, false, false, false, false, false, false, true, false, false, false, true, true, true, true, true, true, true, true, true, false] (fun k => [(5, .d (.int (min (prodI (ds.take k)) 1000000000))), (10, .d (.int k))]) (fun k => []) (fun _ => by (simp only [go_sem, seval, reduceCtorEq, dropF_ch, dropF_cons, dropF_nil, cut, cond_true, cond_false]); first | done | rfl) (fun _ => by (simp only [go_sem, seval, reduceCtorEq, cut]); first | done | rfl) (Nat.le_of_ble_eq_true rfl) (by first | (simp only [go_sem, seval, reduceCtorEq, dropF_ch, dropF_cons, dropF_nil, cut, cond_true, cond_false, Int.natCast_zero, Int.natCast_add, Int.natCast_one, h1]; done) | rfl | (simp only [go_sem, seval, reduceCtorEq, dropF_ch, dropF_cons, dropF_nil, cut, cond_true, cond_false, Int.natCast_zero, Int.natCast_add, Int.natCast_one, h1]; rfl)) (by first | (simp only [go_sem, seval, reduceCtorEq, dropF_ch, dropF_cons, dropF_nil, cut, cond_true, cond_false, Int.natCast_zero, Int.natCast_add, Int.natCast_one, h1]; done) | rfl | (simp only [go_sem, seval, reduceCtorEq, dropF_ch, dropF_cons, dropF_nil, cut, cond_true, cond_false, Int.natCast_zero, Int.natCast_add, Int.natCast_one, h1]; rfl)) fun k hk => ?_
  unfold L0_impl_cappedProduct
  by_cases hlt : k < ds.length
  · have d1 : (k : Int) < ds.length := by omega
    have g : ds[k]? = some ds[k] := List.getElem?_eq_getElem hlt
    have hdk := hd ds[k] (List.getElem_mem hlt)
    have hp := prodI_pos (ds.take k) fun d hm => (hd d (List.mem_of_mem_take hm)).1
    have hs := prodI_take_succ ds k hlt
    rw [getD_of hlt] at hs
    have hm := min_mul (prodI (ds.take k)) ds[k] 1000000000 hdk.1 (by omega)
    rw [← hs] at hm
    have hb1 : 0 ≤ min (prodI (ds.take k)) 1000000000 * ds[k] := Int.mul_nonneg (by omega) (by omega)
    have hb2 : min (prodI (ds.take k)) 1000000000 * ds[k] ≤ 1000000000 * 100 := Int.mul_le_mul (by omega) hdk.2 (by omega) (by omega)
    simp (disch := omega) only [go_sem, seval, reduceCtorEq, d1, g]
    (refine Next.drop [false, false, false, false, false, false, false, true, false, false, false, true, true, true, true, true, true, true, true, true, false] (by omega) (Nat.le_of_ble_eq_true rfl) ?_ ?_ <;> first | (simp only [go_sem, seval, reduceCtorEq, dropF_ch, dropF_cons, dropF_nil, cut, cond_true, cond_false, Int.natCast_zero, Int.natCast_add, Int.natCast_one, hm]; done) | rfl | (simp only [go_sem, seval, reduceCtorEq, dropF_ch, dropF_cons, dropF_nil, cut, cond_true, cond_false, Int.natCast_zero, Int.natCast_add, Int.natCast_one, hm]; rfl) | skip)
  · have d1 : ¬ (k : Int) < ds.length := by omega
    have ht : ds.take k = ds := List.take_of_length_le (by omega)
    simp (disch := omega) only [go_sem, seval, reduceCtorEq, d1, ht]
    (refine FnEnd.mk (Nat.le_of_ble_eq_true rfl) rfl (of_decide_eq_true rfl) ?_ ?_ <;> try simp only [go_sem, seval, reduceCtorEq])
end Go.Proofs.Ytcgnehacihjnkaa
