/-
  LIFT, part 29: what the hand-made walks showed, as contracts on data. No condition.
-/
import Derived.Test.YtmggkcifakbfeaaLift28
import Derived.Test.YtmggkcifakbfeaaHandC
import Derived.Test.YtmggkcifakbfeaaHandB
namespace Go.Proofs.Ytmggkcifakbfeaa
open Go.RowKit Go.Lift Plain

theorem iTensorSize_d {t : Ten} (h : TSz 1099511627776 t) : Does Try.prog 28 [tenA t] [] (.d (.int (tsize t.labels t.dims))) [] :=
  Does.of_calls (rv_int _) fun w γ φ vals hr => by
    obtain ⟨_, rfl, h0⟩ := rel1 hr
    obtain ⟨A0, c0, A1, c1, A2, c2, rfl, o⟩ := rel_ten h0 h
    exact iTensorSize_c o
theorem sTensorSize_d {t : Ten} (h : TSz 1099511627776 t) : Does Try.prog 20 [tenA t] [] (.d (.int (tsize t.labels t.dims))) [] :=
  Does.of_calls (rv_int _) fun w γ φ vals hr => by
    obtain ⟨_, rfl, h0⟩ := rel1 hr
    obtain ⟨A0, c0, A1, c1, A2, c2, rfl, o⟩ := rel_ten h0 h
    exact sTensorSize_c o
theorem iTensorOk_d {k p n : Int} {t : Ten} (a : I64 k) (b : I64 p) (c : I64 n) (h : TSz 1099511627776 t) : Does Try.prog 25 [ringA k p n, tenA t] [] (.d (.bool (tensorOk ⟨k, p, n⟩ t.labels t.dims t.data))) [] :=
  Does.of_calls (rv_bool _) fun w γ φ vals hr => by
    obtain ⟨_, _, rfl, h0, h1⟩ := rel2 hr
    obtain rfl := rel_ring h0
    obtain ⟨A0, c0, A1, c1, A2, c2, rfl, o⟩ := rel_ten h1 h
    exact iTensorOk_c a b c o
theorem sTensorOk_d {k p n : Int} {t : Ten} (a : I64 k) (b : I64 p) (c : I64 n) (h : TSz 1099511627776 t) : Does Try.prog 17 [ringA k p n, tenA t] [] (.d (.bool (tensorOk ⟨k, p, n⟩ t.labels t.dims t.data))) [] :=
  Does.of_calls (rv_bool _) fun w γ φ vals hr => by
    obtain ⟨_, _, rfl, h0, h1⟩ := rel2 hr
    obtain rfl := rel_ring h0
    obtain ⟨A0, c0, A1, c1, A2, c2, rfl, o⟩ := rel_ten h1 h
    exact sTensorOk_c a b c o
theorem iRingOk_d (k p n : Int) : Does Try.prog 24 [ringA k p n] [] (.d (.bool (ringOk ⟨k, p, n⟩))) [] :=
  Does.of_calls (rv_bool _) fun w γ φ vals hr => by
    obtain ⟨_, rfl, h0⟩ := rel1 hr
    obtain rfl := rel_ring h0
    exact iRingOk_c k p n w
theorem sRingOk_d (k p n : Int) : Does Try.prog 15 [ringA k p n] [] (.d (.bool (ringOk ⟨k, p, n⟩))) [] :=
  Does.of_calls (rv_bool _) fun w γ φ vals hr => by
    obtain ⟨_, rfl, h0⟩ := rel1 hr
    obtain rfl := rel_ring h0
    exact sRingOk_c k p n w
theorem rawWidth_d (k p n : Int) : Does Try.prog 44 [ringA k p n] [] (.d (.int (width ⟨k, p, n⟩))) [] :=
  Does.of_calls (rv_int _) fun w γ φ vals hr => by
    obtain ⟨_, rfl, h0⟩ := rel1 hr
    obtain rfl := rel_ring h0
    exact rawWidth_c k p n w
theorem l02Width_d (k p n : Int) : Does Try.prog 36 [ringA k p n] [] (.d (.int (width ⟨k, p, n⟩))) [] :=
  Does.of_calls (rv_int _) fun w γ φ vals hr => by
    obtain ⟨_, rfl, h0⟩ := rel1 hr
    obtain rfl := rel_ring h0
    exact l02Width_c k p n w
theorem l05Offset_d {ds is : List Int} (hd : Sz 1099511627776 ds) (hi : Sz 1099511627776 is) (hok : idxOk ds is) (hdm : ∀ d ∈ ds, 1 ≤ d ∧ d ≤ 8) (hp : prodI ds ≤ 4096) : Does Try.prog 52 [.d (ints ds), .d (ints is)] [] (.d (.int (offs ds is))) [] :=
  Does.of_calls (rv_int _) fun w γ φ vals hv => by
    obtain ⟨_, _, rfl, h0, h1⟩ := rel2 hv
    obtain ⟨A, c, rfl, o⟩ := rel_ints h0 hd
    obtain ⟨A', c', rfl, o'⟩ := rel_ints h1 hi
    exact (l05Offset_c o o' hok hdm hp).mono fun e w' ⟨h, h'⟩ => ⟨h, h' ▸ Below.refl _ _⟩
end Go.Proofs.Ytmggkcifakbfeaa
