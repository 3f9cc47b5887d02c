/-
  LIFT, part 29: what the hand-made walks showed, as contracts on data. No condition.
-/
import Derived.Test.YtodlbhjnmdhjiaaDoorLift28
import Derived.Test.YtodlbhjnmdhjiaaDoorHandC
import Derived.Test.YtodlbhjnmdhjiaaDoorHandB
namespace Go.Proofs.YtodlbhjnmdhjiaaDoor
open Go.RowKit Go.Lift Plain

theorem iTensorSize_d {t : Ten} (h : TSz 1099511627776 t) : Does Tryd.prog 32 [tenA t] [] (.d (.int (tsize t.labels t.dims))) [] :=
  Does.of_calls (rv_int _) fun w γ φ vals hr => by
    obtain ⟨_, rfl, h0⟩ := rel1 hr
    obtain ⟨A0, c0, A1, c1, A2, c2, rfl, o⟩ := rel_ten h0 h
    exact iTensorSize_c o
theorem sTensorSize_d {t : Ten} (h : TSz 1099511627776 t) : Does Tryd.prog 25 [tenA t] [] (.d (.int (tsize t.labels t.dims))) [] :=
  Does.of_calls (rv_int _) fun w γ φ vals hr => by
    obtain ⟨_, rfl, h0⟩ := rel1 hr
    obtain ⟨A0, c0, A1, c1, A2, c2, rfl, o⟩ := rel_ten h0 h
    exact sTensorSize_c o
theorem iTensorOk_d {k p n : Int} {t : Ten} (a : I64 k) (b : I64 p) (c : I64 n) (h : TSz 1099511627776 t) : Does Tryd.prog 18 [ringA k p n, tenA t] [] (.d (.bool (tensorOk ⟨k, p, n⟩ t.labels t.dims t.data))) [] :=
  Does.of_calls (rv_bool _) fun w γ φ vals hr => by
    obtain ⟨_, _, rfl, h0, h1⟩ := rel2 hr
    obtain rfl := rel_ring h0
    obtain ⟨A0, c0, A1, c1, A2, c2, rfl, o⟩ := rel_ten h1 h
    exact iTensorOk_c a b c o
theorem sTensorOk_d {k p n : Int} {t : Ten} (a : I64 k) (b : I64 p) (c : I64 n) (h : TSz 1099511627776 t) : Does Tryd.prog 11 [ringA k p n, tenA t] [] (.d (.bool (tensorOk ⟨k, p, n⟩ t.labels t.dims t.data))) [] :=
  Does.of_calls (rv_bool _) fun w γ φ vals hr => by
    obtain ⟨_, _, rfl, h0, h1⟩ := rel2 hr
    obtain rfl := rel_ring h0
    obtain ⟨A0, c0, A1, c1, A2, c2, rfl, o⟩ := rel_ten h1 h
    exact sTensorOk_c a b c o
theorem iRingOk_d (k p n : Int) : Does Tryd.prog 31 [ringA k p n] [] (.d (.bool (ringOk ⟨k, p, n⟩))) [] :=
  Does.of_calls (rv_bool _) fun w γ φ vals hr => by
    obtain ⟨_, rfl, h0⟩ := rel1 hr
    obtain rfl := rel_ring h0
    exact iRingOk_c k p n w
theorem sRingOk_d (k p n : Int) : Does Tryd.prog 26 [ringA k p n] [] (.d (.bool (ringOk ⟨k, p, n⟩))) [] :=
  Does.of_calls (rv_bool _) fun w γ φ vals hr => by
    obtain ⟨_, rfl, h0⟩ := rel1 hr
    obtain rfl := rel_ring h0
    exact sRingOk_c k p n w
theorem rawWidth_d (k p n : Int) : Does Tryd.prog 33 [ringA k p n] [] (.d (.int (width ⟨k, p, n⟩))) [] :=
  Does.of_calls (rv_int _) fun w γ φ vals hr => by
    obtain ⟨_, rfl, h0⟩ := rel1 hr
    obtain rfl := rel_ring h0
    exact rawWidth_c k p n w
theorem l02Width_d (k p n : Int) : Does Tryd.prog 27 [ringA k p n] [] (.d (.int (width ⟨k, p, n⟩))) [] :=
  Does.of_calls (rv_int _) fun w γ φ vals hr => by
    obtain ⟨_, rfl, h0⟩ := rel1 hr
    obtain rfl := rel_ring h0
    exact l02Width_c k p n w
theorem rawTop_d (k p n : Int) (h : ringOk ⟨k, p, n⟩ = true) : Does Tryd.prog 42 [ringA k p n] [] (.d (.int (top ⟨k, p, n⟩))) [] :=
  Does.of_calls (rv_int _) fun w γ φ vals hr => by
    obtain ⟨_, rfl, h0⟩ := rel1 hr
    obtain rfl := rel_ring h0
    exact rawTop_c k p n w h
theorem l02Top_d (k p n : Int) (h : ringOk ⟨k, p, n⟩ = true) : Does Tryd.prog 29 [ringA k p n] [] (.d (.int (top ⟨k, p, n⟩))) [] :=
  Does.of_calls (rv_int _) fun w γ φ vals hr => by
    obtain ⟨_, rfl, h0⟩ := rel1 hr
    obtain rfl := rel_ring h0
    exact l02Top_c k p n w h
theorem inRing_d {k p n : Int} {xs : List Int} (hr : ringOk ⟨k, p, n⟩ = true) (h : Sz 1099511627776 xs) : Does Tryd.prog 34 [ringA k p n, .d (ints xs)] [] (.d (.bool (fitsB ⟨k, p, n⟩ xs))) [] :=
  Does.of_calls (rv_bool _) fun w γ φ vals hv => by
    obtain ⟨_, _, rfl, h0, h1⟩ := rel2 hv
    obtain rfl := rel_ring h0
    obtain ⟨A, c, rfl, o⟩ := rel_ints h1 h
    exact inRing_c hr o
theorem l02Elem_d {k p n : Int} {xs : List Int} (hr : ringOk ⟨k, p, n⟩ = true) (h : Sz 1099511627776 xs) : Does Tryd.prog 39 [ringA k p n, .d (ints xs)] [] (.d (.bool (decide ((xs.length : Int) = width ⟨k, p, n⟩) && fitsB ⟨k, p, n⟩ xs))) [] :=
  Does.of_calls (rv_bool _) fun w γ φ vals hv => by
    obtain ⟨_, _, rfl, h0, h1⟩ := rel2 hv
    obtain rfl := rel_ring h0
    obtain ⟨A, c, rfl, o⟩ := rel_ints h1 h
    exact l02Elem_c hr o
theorem sElemOk_d {k p n : Int} {xs : List Int} (h : Sz 1099511627776 xs) : Does Tryd.prog 30 [ringA k p n, .d (ints xs)] [] (.d (.bool (elemOk ⟨k, p, n⟩ xs))) [] :=
  Does.of_calls (rv_bool _) fun w γ φ vals hv => by
    obtain ⟨_, _, rfl, h0, h1⟩ := rel2 hv
    obtain rfl := rel_ring h0
    obtain ⟨A, c, rfl, o⟩ := rel_ints h1 h
    exact sElemOk_c o
end Go.Proofs.YtodlbhjnmdhjiaaDoor
