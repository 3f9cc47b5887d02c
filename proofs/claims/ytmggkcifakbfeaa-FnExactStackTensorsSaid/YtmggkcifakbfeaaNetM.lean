/-
  Contracts: networks that are marked. No condition.
-/
import Derived.Test.YtmggkcifakbfeaaMgStackTensorsA
import Derived.Test.YtmggkcifakbfeaaNetB
import Derived.Test.YtmggkcifakbfeaaArrA
namespace Go.Proofs.Ytmggkcifakbfeaa
open Go.RowKit Go.Lift Plain
set_option linter.unusedSimpArgs false
set_option linter.unusedVariables false
set_option maxRecDepth 100000

def markTs : List Ten → Int → List Ten
  | [], _ => []
  | t :: l, m => markT t m :: markTs l (m + lenT t)
theorem markTs_len : ∀ (ts : List Ten) (m : Int), (markTs ts m).length = ts.length
  | [], _ => rfl
  | t :: l, m => by simp [markTs, markTs_len l]
theorem markTs_app : ∀ (a b : List Ten) (m : Int), markTs (a ++ b) m = markTs a m ++ markTs b (m + totT a)
  | [], b, m => by simp [markTs, totT]
  | t :: l, b, m => by simp [markTs, totT, markTs_app l b, Int.add_assoc]
def mkTo (ts : List Ten) (m : Int) (k : Nat) : List Ten := markTs (ts.take k) m ++ ts.drop k
section
variable {ts : List Ten} {m : Int} {k : Nat}
theorem mkTo_zero : mkTo ts m 0 = ts := by simp [mkTo, markTs]
theorem mkTo_all (hk : ts.length ≤ k) : mkTo ts m k = markTs ts m := by simp [mkTo, List.take_of_length_le hk, List.drop_of_length_le hk]
theorem mk3_len (hk : k ≤ ts.length) : (tcA (markTs (ts.take k) m)).length = k * 3 := by rw [tcA_len, markTs_len, List.length_take]; congr 1; omega
theorem mkTo_split (hk : k < ts.length) : tcA (mkTo ts m k) = tcA (markTs (ts.take k) m) ++ [.tr (.sl ts[k].labels.length (dv ts[k].labels)), .tr (.sl ts[k].dims.length (dv ts[k].dims)), .tr (.sl ts[k].data.length (dv ts[k].data))] ++ tcA (ts.drop (k + 1)) := by
  have e4 : ts.drop k = [ts[k]] ++ ts.drop (k + 1) := List.drop_eq_getElem_cons hk
  rw [mkTo, e4, tcA_app, tcA_app, List.append_assoc]
  rfl
theorem mkTo_next (hk : k < ts.length) : tcA (markTs (ts.take k) m) ++ [.tr (.sl ts[k].labels.length (dv (markL ts[k].labels (m + totT (ts.take k))))), .tr (.sl ts[k].dims.length (dv (markL ts[k].dims (m + totT (ts.take k) + ts[k].labels.length)))), .tr (.sl ts[k].data.length (dv (markL ts[k].data (m + totT (ts.take k) + ts[k].labels.length + ts[k].dims.length))))] ++ tcA (ts.drop (k + 1)) = tcA (mkTo ts m (k + 1)) := by
  have e : tcA (mkTo ts m (k + 1)) = tcA (markTs (ts.take k) m) ++ tcA [markT ts[k] (m + totT (ts.take k))] ++ tcA (ts.drop (k + 1)) := by
    rw [mkTo, take_ss hk, markTs_app, tcA_app, tcA_app]
    rfl
  rw [e, tcA_one]
  simp only [ints, markT, markL_len]
end
theorem dv_cellT (xs : List Int) : (dv xs).map cellT = iv xs := by simp [dv, iv, cellT]
def markN (N : Net) (m : Int) : Net := ⟨N.k, N.p, N.n, markTs N.ts m, markL N.os (m + totT N.ts)⟩
attribute [go_sem] markN markTs_len
theorem markTensorS_d {ts : List Ten} {m : Int} (h : ts.length ≤ 1048576) (ht : ∀ t ∈ ts, TSz 1048576 t) (h0 : 0 ≤ m ∧ m + totT ts ≤ 1073741824) :
    Does Try.prog 11 [.own 0 0 ts.length, .d (.int m)] [some ⟨3, false, tcA ts⟩] (.d (.int (m + totT ts))) [some ⟨3, false, tcA (markTs ts m)⟩] := by
  have hz : (totT (ts.take 0) : Int) = 0 := by simp [totT]
  (refine spec_of (by kernel_rfl) Try.func11 k_laws_markTensorS (fnOk (Nat.le_of_ble_eq_true rfl) ?_); unfold C_laws_markTensorS)
  (simp only [Nat.reduceSub, List.length_cons, List.length_nil, Nat.reduceAdd, ch_init1, ch_init2, ch_init3, ch_init4, ch_init5, ch_init6, ch_init7, ch_init8]; try simp only [ch_rep]); (simp only [go_sem, seval, reduceCtorEq, List.replicate])
  refine wpN_lp (ts.length) [false, false, false, false, false, false, true, true, true, true, true, true, true, true, true, true, true, true, true, true, true, true, true, true, true, true, true, true, true, true, true, true, true, false] (fun k => [(1, .d (.int (m + totT (ts.take k)))), (5, .d (.int k))]) (fun k => [(0, tcA (mkTo ts m k))]) (fun _ => by (simp only [go_sem, seval, reduceCtorEq, dropF_ch, dropF_cons, dropF_nil, cut, cond_true, cond_false]); first | done | rfl) (fun _ => by (simp only [go_sem, seval, reduceCtorEq, cut]); first | done | rfl) (Nat.le_of_ble_eq_true rfl) (by first | (simp only [go_sem, seval, reduceCtorEq, dropF_ch, dropF_cons, dropF_nil, cut, cond_true, cond_false, Int.natCast_zero, Int.natCast_add, Int.natCast_one, mkTo_zero, List.take_zero, totT, Int.add_zero]; done) | rfl | (simp only [go_sem, seval, reduceCtorEq, dropF_ch, dropF_cons, dropF_nil, cut, cond_true, cond_false, Int.natCast_zero, Int.natCast_add, Int.natCast_one, mkTo_zero, List.take_zero, totT, Int.add_zero]; rfl)) (by first | (simp only [go_sem, seval, reduceCtorEq, dropF_ch, dropF_cons, dropF_nil, cut, cond_true, cond_false, Int.natCast_zero, Int.natCast_add, Int.natCast_one, mkTo_zero, List.take_zero, totT, Int.add_zero]; done) | rfl | (simp only [go_sem, seval, reduceCtorEq, dropF_ch, dropF_cons, dropF_nil, cut, cond_true, cond_false, Int.natCast_zero, Int.natCast_add, Int.natCast_one, mkTo_zero, List.take_zero, totT, Int.add_zero]; rfl)) fun k hk => ?_
  unfold L0_laws_markTensorS
  by_cases hlt : k < ts.length
  · have d1 : (k : Int) < ts.length := by omega
    have hst := ht ts[k] (List.getElem_mem hlt)
    have hl1 := hst.l.len
    have hl2 := hst.d.len
    have hl3 := hst.x.len
    have hn := totT_next hlt
    have hle := totT_take ts (k + 1)
    unfold lenT at hn
    have hA := mk3_len (ts := ts) (m := m) (k := k) (by omega)
    simp (disch := omega) only [go_sem, seval, reduceCtorEq, d1, mkTo_split hlt]
    refine GH.mk (Wk.sp3 3 (k * 3) false (tcA (markTs (ts.take k) m)) (tcA (ts.drop (k + 1))) (Nat.le_of_ble_eq_true rfl) hA (fun f hf => mapL_tcA f hf) (fun f hf => mapL_tcA f hf) (fun _ _ _ _ => by simp only [mapL_ch, mapL, mapA, spG])) ?_
    have g0 : ∀ x y z : AV, (tcA (markTs (ts.take k) m) ++ [x, y, z] ++ tcA (ts.drop (k + 1)))[k * 3]? = some x := fun x y z => by rw [← hA]; simp
    have g1 : ∀ x y z : AV, (tcA (markTs (ts.take k) m) ++ [x, y, z] ++ tcA (ts.drop (k + 1)))[k * 3 + 1]? = some y := fun x y z => by rw [← hA]; simp
    have g2 : ∀ x y z : AV, (tcA (markTs (ts.take k) m) ++ [x, y, z] ++ tcA (ts.drop (k + 1)))[k * 3 + 2]? = some z := fun x y z => by rw [← hA]; simp
    simp (disch := omega) only [go_sem, seval, reduceCtorEq, dv_cellT, d1, g0]
    (refine ti_callw [1] false (markIntS_d (xs := ts[k].labels) (m := m + totT (ts.take k)) hst.l.up.len (by omega)) (of_decide_eq_true rfl) ?_ ?_ ?_ ?_ (of_decide_eq_true rfl) ?_; (focus (simp only [go_sem, seval, reduceCtorEq]; done)); (focus (simp only [go_sem, seval, reduceCtorEq]; done)); (focus (simp only [go_sem, seval, reduceCtorEq]; done)); (focus (simp only [go_sem, seval, reduceCtorEq]; done)))
    simp (disch := omega) only [go_sem, seval, reduceCtorEq, d1, g1]
    (refine ti_callw [2] false (markIntS_d (xs := ts[k].dims) (m := m + totT (ts.take k) + ts[k].labels.length) hst.d.up.len (by omega)) (of_decide_eq_true rfl) ?_ ?_ ?_ ?_ (of_decide_eq_true rfl) ?_; (focus (simp only [go_sem, seval, reduceCtorEq]; done)); (focus (simp only [go_sem, seval, reduceCtorEq]; done)); (focus (simp only [go_sem, seval, reduceCtorEq]; done)); (focus (simp only [go_sem, seval, reduceCtorEq]; done)))
    simp (disch := omega) only [go_sem, seval, reduceCtorEq, d1, g2]
    (refine ti_callw [3] false (markIntS_d (xs := ts[k].data) (m := m + totT (ts.take k) + ts[k].labels.length + ts[k].dims.length) hst.x.up.len (by omega)) (of_decide_eq_true rfl) ?_ ?_ ?_ ?_ (of_decide_eq_true rfl) ?_; (focus (simp only [go_sem, seval, reduceCtorEq]; done)); (focus (simp only [go_sem, seval, reduceCtorEq]; done)); (focus (simp only [go_sem, seval, reduceCtorEq]; done)); (focus (simp only [go_sem, seval, reduceCtorEq]; done)))
    have hsum : m + (totT (ts.take k) : Int) + ts[k].labels.length + ts[k].dims.length + ts[k].data.length = m + totT (ts.take (k + 1)) := by omega
    simp (disch := omega) only [go_sem, seval, reduceCtorEq, hsum]
    (refine Next.mk (by omega) (Wk.eq (Wk.ad3 [false, false, false, false, false, false, true, true, true, true, true, true, true, true, true, true, true, true, true, true, true, true, true, true, true, true, true, true, true, true, true, true, true, false] 0 3 (k * 3) false (τ := [_]) (Nat.le_of_ble_eq_true rfl) rfl (hA) rfl (treL_iv _) (treL_iv _) (treL_iv _) (by simp only [go_sem, seval, reduceCtorEq]) (by simp only [go_sem, seval, reduceCtorEq]) (by simp only [go_sem, seval, reduceCtorEq]) (fun _ => rnL_iv _) (fun _ => rnL_iv _)) ?_ ?_) <;> first | (simp only [go_sem, seval, reduceCtorEq, dropF_ch, dropF_cons, dropF_nil, cut, cond_true, cond_false, Int.natCast_zero, Int.natCast_add, Int.natCast_one, mkTo_next hlt]; done) | rfl | (simp only [go_sem, seval, reduceCtorEq, dropF_ch, dropF_cons, dropF_nil, cut, cond_true, cond_false, Int.natCast_zero, Int.natCast_add, Int.natCast_one, mkTo_next hlt]; rfl) | skip)
  · have d1 : ¬ (k : Int) < ts.length := by omega
    have htk : ts.take k = ts := List.take_of_length_le (by omega)
    simp (disch := omega) only [go_sem, seval, reduceCtorEq, d1, mkTo_all (show ts.length ≤ k by omega), htk]
    (refine FnEnd.mk (Nat.le_of_ble_eq_true rfl) rfl (of_decide_eq_true rfl) ?_ ?_ <;> try simp only [go_sem, seval, reduceCtorEq])
end Go.Proofs.Ytmggkcifakbfeaa
