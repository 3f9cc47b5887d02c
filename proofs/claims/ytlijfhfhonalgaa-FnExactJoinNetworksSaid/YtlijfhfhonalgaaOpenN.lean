/-
  Networks among the arguments, opened as plain data. No condition.
-/
import Derived.Test.YtlijfhfhonalgaaNetB
namespace Go.Proofs.Ytlijfhfhonalgaa
open Go.RowKit Go.Lift Go.ChangeShapes Go.WideShapes Plain
set_option maxRecDepth 100000

theorem hasD_int {d : D} (h : HasD d .int) : ∃ n, d = .int n ∧ I64 n := by
  cases d <;> simp only [HasD] at h
  exact ⟨_, rfl, h⟩
theorem hasDL_ints : ∀ {l : List D} {j : Nat}, HasDL l j [.int] → ∃ xs : List Int, l = dv xs ∧ ∀ x ∈ xs, I64 x
  | [], _, _ => ⟨[], rfl, by simp⟩
  | x :: l, j, h => by
    simp only [HasDL, List.length_cons, List.length_nil, Nat.zero_add, Nat.mod_one, List.getD_cons_zero] at h
    obtain ⟨n, rfl, hn⟩ := hasD_int h.1
    obtain ⟨xs, rfl, hx⟩ := hasDL_ints h.2
    exact ⟨n :: xs, rfl, by simpa using ⟨hn, hx⟩⟩
theorem hasD_ints {d : D} (h : HasD d (.sl [.int])) : ∃ xs : List Int, d = ints xs ∧ Sz 9223372036854775807 xs := by
  cases d <;> simp only [HasD] at h
  obtain ⟨h1, h2, h3⟩ := h
  obtain ⟨xs, rfl, hx⟩ := hasDL_ints h3
  simp only [dv, List.length_map, List.length_cons, List.length_nil, Nat.zero_add, Nat.mul_one] at h2
  subst h2
  exact ⟨xs, rfl, h1, hx⟩
theorem hasDL_tens : ∀ {n : Nat} {l : List D} {j : Nat}, j % 3 = 0 → l.length = n * 3 → HasDL l j [.sl [.int], .sl [.int], .sl [.int]] → ∃ ts : List Ten, l = tcs ts ∧ ts.length = n ∧ ∀ t ∈ ts, TSz 9223372036854775807 t
  | 0, l, _, _, hl, _ => by
    obtain rfl := List.eq_nil_of_length_eq_zero (by simpa using hl)
    exact ⟨[], rfl, rfl, by simp⟩
  | n + 1, l, j, hj, hl, h => by
    match l, hl with
    | x :: y :: z :: l, hl =>
      simp only [HasDL, List.length_cons, List.length_nil] at h
      obtain ⟨h0, h1, h2, h3⟩ := h
      rw [show j % (0 + 1 + 1 + 1) = 0 by simpa using hj] at h0
      rw [show (j + 1) % (0 + 1 + 1 + 1) = 1 by simp; omega] at h1
      rw [show (j + 1 + 1) % (0 + 1 + 1 + 1) = 2 by simp; omega] at h2
      obtain ⟨a, rfl, ha⟩ := hasD_ints (by simpa using h0)
      obtain ⟨b, rfl, hb⟩ := hasD_ints (by simpa using h1)
      obtain ⟨c, rfl, hc⟩ := hasD_ints (by simpa using h2)
      obtain ⟨ts, rfl, ht, hs⟩ := hasDL_tens (n := n) (j := j + 1 + 1 + 1) (by omega) (by simp at hl; omega) h3
      refine ⟨⟨a, b, c⟩ :: ts, rfl, by simp [ht], fun t hm => ?_⟩
      rcases List.mem_cons.1 hm with rfl | hm
      · exact ⟨ha, hb, hc⟩
      · exact hs t hm
    | [], hl => simp at hl
    | [_], hl => simp at hl; omega
    | [_, _], hl => simp at hl; omega
theorem hasD_tens {d : D} (h : HasD d (.sl [.sl [.int], .sl [.int], .sl [.int]])) : ∃ ts : List Ten, d = tens ts ∧ ts.length ≤ 9223372036854775807 ∧ ∀ t ∈ ts, TSz 9223372036854775807 t := by
  cases d <;> simp only [HasD] at h
  obtain ⟨h1, h2, h3⟩ := h
  obtain ⟨ts, rfl, ht, hs⟩ := hasDL_tens (by omega) (by simpa using h2) h3
  subst ht
  exact ⟨ts, rfl, h1, hs⟩
structure NetIn (w : World) (v : Value) (N : Net) : Prop where
  rel : Rel w (topL w) id (at_ []) (netA N) v
  sz : NSz 9223372036854775807 N
theorem reads_rel {w : World} {cs : Array Value} {ds : List D} {shs : List Sh} (h : Reads w cs.toList ds shs) : Rel w (topL w) id (at_ []) (.agg (ds.map .d)) (.agg cs) := by
  rw [Rel]
  refine ⟨cs, rfl, RelL.of_get (by simpa using h.1.symm) fun i x hx => ?_⟩
  simp only [List.getElem?_map, Option.map_eq_some_iff] at hx
  obtain ⟨d, hd, rfl⟩ := hx
  have hi : i < cs.toList.length := by rw [← h.1]; exact (List.getElem?_eq_some_iff.1 hd).1
  obtain ⟨d', e1, e2, _⟩ := h.2.2 i _ _ (List.getElem?_eq_getElem hi) (List.getElem?_eq_getElem (by rw [h.2.1]; exact hi))
  rw [hd] at e1
  simp only [Option.some.injEq] at e1
  subst e1
  exact ⟨_, List.getElem?_eq_getElem hi, by rw [Rel]; exact e2⟩
section
variable {H : Type} {enc : TypeId × Value → H} {w : World} {base : Nat} {held : Bool} {r : Reach}
theorem open_network {b0 : Nat} {v : Value} {d : DataW H} {p : List MemPlace} (hv : Value.okWide Try.prog w r b0 51 v) (h : DataW.Trod enc Try.prog w base (fun _ => true) held 51 v d p) :
    ∃ N, NetIn w v N := by
  obtain ⟨cs, rfl, hsz⟩ := okWide_struct Try.underlying51 hv
  obtain ⟨fuel, hf⟩ := h
  obtain ⟨ds, hR⟩ := reads_of 5 51 [.int, .int, .int, .sl [.sl [.int], .sl [.int], .sl [.int]], .sl [.int]] (by kernel_rfl) fuel cs.toList _ (by simpa [Value.cells] using hf) (by kernel_rfl)
  have hrel := reads_rel hR
  obtain ⟨h1, h2, h3⟩ := hR
  have hl : ds.length = 5 := by rw [h1, ← h2]; rfl
  match ds, hl with
  | [d0, d1, d2, d3, d4], _ =>
    have get : ∀ (i : Nat) (x : D) (s : Sh), [d0, d1, d2, d3, d4][i]? = some x → ([.int, .int, .int, .sl [.sl [.int], .sl [.int], .sl [.int]], .sl [.int]] : List Sh)[i]? = some s → HasD x s := fun i x s hx hs => by
      have hi : i < cs.toList.length := by rw [← h2]; exact (List.getElem?_eq_some_iff.1 hs).1
      obtain ⟨d', e1, _, e3⟩ := h3 i _ s (List.getElem?_eq_getElem hi) hs
      rw [hx] at e1
      simp only [Option.some.injEq] at e1
      subst e1
      exact e3
    obtain ⟨k, rfl, hk⟩ := hasD_int (get 0 _ _ rfl rfl)
    obtain ⟨p, rfl, hp⟩ := hasD_int (get 1 _ _ rfl rfl)
    obtain ⟨n, rfl, hn⟩ := hasD_int (get 2 _ _ rfl rfl)
    obtain ⟨ts, rfl, hl, ht⟩ := hasD_tens (get 3 _ _ rfl rfl)
    obtain ⟨os, rfl, ho⟩ := hasD_ints (get 4 _ _ rfl rfl)
    exact ⟨⟨k, p, n, ts, os⟩, hrel, ⟨hk, hp, hn, hl, ht, ho⟩⟩
end
theorem szNet_go {N : Net} {left : Int} (h : NSz 9223372036854775807 N) (hl : left ≤ 1048576) (hs : ¬ szNet N left < 0) : NSz 1048576 N ∧ (N.ts.length + totT N.ts + N.os.length : Int) ≤ left ∧ szNet N left = left - (N.ts.length + totT N.ts + N.os.length) := by
  have hs' := hs
  unfold szNet at hs'
  have hb : (N.ts.length + totT N.ts + N.os.length : Int) ≤ left := by split at hs' <;> omega
  refine ⟨⟨h.k, h.p, h.n, by omega, fun t ht => ?_, ⟨by omega, h.o.wf⟩⟩, hb, by unfold szNet; rw [if_neg (by omega)]⟩
  have h1 := totT_mem ht
  unfold lenT at h1
  have h2 := h.t t ht
  exact ⟨⟨by omega, h2.l.wf⟩, ⟨by omega, h2.d.wf⟩, ⟨by omega, h2.x.wf⟩⟩
end Go.Proofs.Ytlijfhfhonalgaa
