/-
  LIFT, part 29: what the hand-made walks showed, as contracts on data. No condition.
-/
import Derived.Test.YtlijfhfhonalgaaLift28
import Derived.Test.YtlijfhfhonalgaaHandC
import Derived.Test.YtlijfhfhonalgaaHandB
namespace Go.Proofs.Ytlijfhfhonalgaa
open Go.RowKit Go.Lift Plain

theorem iTensorSize_d {t : Ten} (h : TSz 1099511627776 t) : Does Try.prog 44 [tenA t] [] (.d (.int (tsize t.labels t.dims))) [] :=
  Does.of_calls (rv_int _) fun w γ φ vals hr => by
    obtain ⟨_, rfl, h0⟩ := rel1 hr
    obtain ⟨A0, c0, A1, c1, A2, c2, rfl, o⟩ := rel_ten h0 h
    exact iTensorSize_c o
theorem sTensorSize_d {t : Ten} (h : TSz 1099511627776 t) : Does Try.prog 41 [tenA t] [] (.d (.int (tsize t.labels t.dims))) [] :=
  Does.of_calls (rv_int _) fun w γ φ vals hr => by
    obtain ⟨_, rfl, h0⟩ := rel1 hr
    obtain ⟨A0, c0, A1, c1, A2, c2, rfl, o⟩ := rel_ten h0 h
    exact sTensorSize_c o
theorem iTensorOk_d {k p n : Int} {t : Ten} (a : I64 k) (b : I64 p) (c : I64 n) (h : TSz 1099511627776 t) : Does Try.prog 42 [ringA k p n, tenA t] [] (.d (.bool (tensorOk ⟨k, p, n⟩ t.labels t.dims t.data))) [] :=
  Does.of_calls (rv_bool _) fun w γ φ vals hr => by
    obtain ⟨_, _, rfl, h0, h1⟩ := rel2 hr
    obtain rfl := rel_ring h0
    obtain ⟨A0, c0, A1, c1, A2, c2, rfl, o⟩ := rel_ten h1 h
    exact iTensorOk_c a b c o
theorem sTensorOk_d {k p n : Int} {t : Ten} (a : I64 k) (b : I64 p) (c : I64 n) (h : TSz 1099511627776 t) : Does Try.prog 35 [ringA k p n, tenA t] [] (.d (.bool (tensorOk ⟨k, p, n⟩ t.labels t.dims t.data))) [] :=
  Does.of_calls (rv_bool _) fun w γ φ vals hr => by
    obtain ⟨_, _, rfl, h0, h1⟩ := rel2 hr
    obtain rfl := rel_ring h0
    obtain ⟨A0, c0, A1, c1, A2, c2, rfl, o⟩ := rel_ten h1 h
    exact sTensorOk_c a b c o
theorem iRingOk_d (k p n : Int) : Does Try.prog 55 [ringA k p n] [] (.d (.bool (ringOk ⟨k, p, n⟩))) [] :=
  Does.of_calls (rv_bool _) fun w γ φ vals hr => by
    obtain ⟨_, rfl, h0⟩ := rel1 hr
    obtain rfl := rel_ring h0
    exact iRingOk_c k p n w
theorem sRingOk_d (k p n : Int) : Does Try.prog 51 [ringA k p n] [] (.d (.bool (ringOk ⟨k, p, n⟩))) [] :=
  Does.of_calls (rv_bool _) fun w γ φ vals hr => by
    obtain ⟨_, rfl, h0⟩ := rel1 hr
    obtain rfl := rel_ring h0
    exact sRingOk_c k p n w
end Go.Proofs.Ytlijfhfhonalgaa
