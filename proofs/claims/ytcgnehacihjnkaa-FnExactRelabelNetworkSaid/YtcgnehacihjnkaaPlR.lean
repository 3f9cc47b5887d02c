/-
  Plain networks with their labels renamed. No condition.
-/
import Derived.Test.YtcgnehacihjnkaaNetE
namespace Go.Proofs.Ytcgnehacihjnkaa
open Go.RowKit Go.Lift Plain
set_option linter.unusedSimpArgs false
set_option linter.unusedVariables false

/-- No element stands twice. -/
def distL (xs : List Int) : Prop := ∀ i, (hi : i < xs.length) → xs[i] ∉ xs.take i
theorem mem_takeI {xs : List Int} {i j : Nat} (hi : i < xs.length) (h : i < j) : xs[i] ∈ xs.take j := by
  refine List.mem_iff_getElem.2 ⟨i, by rw [List.length_take]; omega, by rw [List.getElem_take]⟩
theorem distL_inj {ρ : Int → Int} {L : List Int} (h : distL (L.map ρ)) {x y : Int} (hx : x ∈ L) (hy : y ∈ L) (e : ρ x = ρ y) : x = y := by
  obtain ⟨i, hi, rfl⟩ := List.mem_iff_getElem.1 hx
  obtain ⟨j, hj, rfl⟩ := List.mem_iff_getElem.1 hy
  have key : ∀ a b : Nat, (ha : a < L.length) → (hb : b < L.length) → ρ L[a] = ρ L[b] → ¬ a < b := fun a b ha hb e hab => by
    have h1 := h b (by simpa using hb)
    have h2 := mem_takeI (xs := L.map ρ) (i := a) (j := b) (by simpa using ha) hab
    rw [List.getElem_map] at h1 h2
    exact h1 (e ▸ h2)
  have := key i j hi hj e
  have := key j i hj hi e.symm
  obtain rfl : i = j := by omega
  rfl
section
variable {ρ : Int → Int}
theorem axOk_map {ls ds : List Int} (h : axOk ls ds) (hi : ∀ x ∈ ls, ∀ y ∈ ls, ρ x = ρ y → x = y) (hb : ∀ x ∈ ls, 0 ≤ ρ x ∧ ρ x ≤ 99) : axOk (ls.map ρ) ds := by
  refine ⟨by simpa using h.1, by simpa using h.2.1, fun k hk => ?_⟩
  rw [List.length_map] at hk
  have h3 := h.2.2 k hk
  have hk' : k < (ls.map ρ).length := by simpa using hk
  unfold axAt at h3 ⊢
  rw [getD_of hk', List.getElem_map]
  rw [getD_of hk] at h3
  have hbk := hb _ (List.getElem_mem hk)
  refine ⟨hbk.1, hbk.2, h3.2.2.1, h3.2.2.2.1, fun hm => ?_⟩
  rw [← List.map_take, List.mem_map] at hm
  obtain ⟨y, hy, e⟩ := hm
  have := hi y (List.mem_of_mem_take hy) _ (List.getElem_mem hk) e
  exact h3.2.2.2.2 (this ▸ hy)
theorem tsize_map {ls ds : List Int} (h : tsize ls ds ≠ -1) (hi : ∀ x ∈ ls, ∀ y ∈ ls, ρ x = ρ y → x = y) (hb : ∀ x ∈ ls, 0 ≤ ρ x ∧ ρ x ≤ 99) : tsize (ls.map ρ) ds = tsize ls ds := by
  rcases tsize_cases ls ds with e | ⟨a, b, c, _⟩
  · exact absurd e h
  · have ha := axOk_map a hi hb
    rw [c, tsize_good ha.1 ha.2.1 ha.2.2 b]
def mapT (ρ : Int → Int) (t : Ten) : Ten := ⟨t.labels.map ρ, t.dims, t.data⟩
theorem tensorOk_map {r : Rg} {t : Ten} (h : tensorOk r t.labels t.dims t.data = true) (hi : ∀ x ∈ t.labels, ∀ y ∈ t.labels, ρ x = ρ y → x = y) (hb : ∀ x ∈ t.labels, 0 ≤ ρ x ∧ ρ x ≤ 99) :
    tensorOk r (mapT ρ t).labels (mapT ρ t).dims (mapT ρ t).data = true := by
  have h1 : tsize t.labels t.dims ≠ -1 := by
    unfold tensorOk at h
    simp only [Bool.and_eq_true, decide_eq_true_eq] at h
    exact h.1.2.1
  unfold tensorOk at h ⊢
  show (ringOk r && decide (tsize (t.labels.map ρ) t.dims ≠ -1 ∧ (t.data.length : Int) = tsize (t.labels.map ρ) t.dims * width r) && fitsB r t.data) = true
  rw [tsize_map h1 hi hb]
  exact h
theorem place_map {ls : List Int} {x : Int} (hx : x ∈ ls) (hi : ∀ y ∈ ls, ρ y = ρ x → y = x) : place (ls.map ρ) (ρ x) = place ls x := by
  obtain ⟨k, hk, e1, e2, e3⟩ := place_mem hx
  have hk' : k < (ls.map ρ).length := by simpa using hk
  have := place_at hk' (by
    rw [List.getElem_map, e2, ← List.map_take, List.mem_map]
    rintro ⟨y, hy, e⟩
    exact e3 (hi y (List.mem_of_mem_take hy) e ▸ hy))
  rw [List.getElem_map, e2] at this
  rw [this, e1]
theorem dimAt_map {t : Ten} {x : Int} (hx : x ∈ t.labels) (hi : ∀ y ∈ t.labels, ρ y = ρ x → y = x) : dimAt (mapT ρ t) (ρ x) = dimAt t x := by
  show t.dims.getD (place (t.labels.map ρ) (ρ x)).toNat 0 = t.dims.getD (place t.labels x).toNat 0
  rw [place_map hx hi]
theorem dimN_map : ∀ {l : List Ten} {x : Int}, (∀ t ∈ l, ∀ y ∈ t.labels, ρ y = ρ x → y = x) → dimN (l.map (mapT ρ)) (ρ x) = dimN l x
  | [], _, _ => rfl
  | t :: l, x, hi => by
    have ih := dimN_map (l := l) (x := x) fun t ht => hi t (List.mem_cons_of_mem _ ht)
    have h0 := hi t (List.mem_cons_self ..)
    rw [List.map_cons, dimN, dimN, ih]
    by_cases hx : x ∈ t.labels
    · rw [if_pos hx, if_pos (show ρ x ∈ (mapT ρ t).labels from List.mem_map.2 ⟨x, hx, rfl⟩), dimAt_map hx h0]
    · rw [if_neg hx, if_neg]
      intro hm
      obtain ⟨y, hy, e⟩ := List.mem_map.1 (show ρ x ∈ t.labels.map ρ from hm)
      exact hx (h0 y hy e ▸ hy)
theorem dimN_some : ∀ {l : List Ten} {x : Int}, dimN l x ≠ 0 → ∃ t ∈ l, x ∈ t.labels
  | [], _, h => absurd rfl h
  | t :: l, x, h => by
    by_cases hx : x ∈ t.labels
    · exact ⟨t, List.mem_cons_self .., hx⟩
    · rw [dimN, if_neg hx] at h
      obtain ⟨u, hu, hm⟩ := dimN_some h
      exact ⟨u, List.mem_cons_of_mem _ hu, hm⟩
theorem dimN_ne : ∀ {l : List Ten} {x : Int}, axOks l → (∃ t ∈ l, x ∈ t.labels) → dimN l x ≠ 0
  | [], _, _, ⟨_, h, _⟩ => by simp at h
  | t :: l, x, ha, ⟨u, hu, hm⟩ => by
    rw [dimN]
    split
    · rename_i hx
      have := dimAt_bd (ha t (List.mem_cons_self ..)) hx
      omega
    · rename_i hx
      rcases List.mem_cons.1 hu with e | hu
      · exact absurd (e ▸ hm) hx
      · exact dimN_ne (fun t ht => ha t (List.mem_cons_of_mem _ ht)) ⟨u, hu, hm⟩
def mapNet (ρ : Int → Int) (N : Net) : Net := ⟨N.k, N.p, N.n, N.ts.map (mapT ρ), N.os.map ρ⟩
def inN (N : Net) (x : Int) : Prop := ∃ t ∈ N.ts, x ∈ t.labels
theorem os_inN {N : Net} (h : netOk N = true) {x : Int} (hx : x ∈ N.os) : inN N x := by
  have h5 := (netOk_iff.1 h).2.2.2.2
  rcases tsize_cases N.os (N.os.map (dimN N.ts)) with e | ⟨a, _⟩
  · exact absurd e h5
  · have := a.dim (dimN N.ts x) (List.mem_map.2 ⟨x, hx, rfl⟩)
    exact dimN_some (by omega)
theorem netOk_map {N : Net} (h : netOk N = true) (hi : ∀ x y, inN N x → inN N y → ρ x = ρ y → x = y) (hb : ∀ x, inN N x → 0 ≤ ρ x ∧ ρ x ≤ 99) : netOk (mapNet ρ N) = true := by
  obtain ⟨a, b, c, d, e⟩ := netOk_iff.1 h
  have hin : ∀ t ∈ N.ts, ∀ x ∈ t.labels, inN N x := fun t ht x hx => ⟨t, ht, hx⟩
  have hdn : ∀ l : List Ten, (∀ t ∈ l, t ∈ N.ts) → ∀ x, inN N x → dimN (l.map (mapT ρ)) (ρ x) = dimN l x := fun l hl x hx => dimN_map fun t ht y hy e => hi y x (hin t (hl t ht) y hy) hx e
  refine netOk_iff.2 ⟨a, by simpa [mapNet] using b, fun t ht => ?_, fun k hk x hk' hx => ?_, ?_⟩
  · obtain ⟨u, hu, rfl⟩ := List.mem_map.1 (show t ∈ N.ts.map (mapT ρ) from ht)
    exact tensorOk_map (c u hu) (fun x hx y hy => hi x y (hin u hu x hx) (hin u hu y hy)) fun x hx => hb x (hin u hu x hx)
  · have hkN : k < N.ts.length := by simpa [mapNet] using hk
    have ek : (mapNet ρ N).ts[k] = mapT ρ N.ts[k] := by simp [mapNet]
    rw [ek] at hx ⊢
    have et : (mapNet ρ N).ts.take k = (N.ts.take k).map (mapT ρ) := by simp [mapNet, List.map_take]
    rw [et]
    obtain ⟨y, hy, rfl⟩ := List.mem_map.1 (show x ∈ N.ts[k].labels.map ρ from hx)
    have hm := List.getElem_mem hkN
    rw [hdn _ (fun t ht => List.mem_of_mem_take ht) y (hin _ hm y hy), dimAt_map hy fun z hz e => hi z y (hin _ hm z hz) (hin _ hm y hy) e]
    exact d k hkN y hkN hy
  · have hos : (N.os.map ρ).map (dimN (N.ts.map (mapT ρ))) = N.os.map (dimN N.ts) := by
      rw [List.map_map]
      exact List.map_congr_left fun x hx => hdn _ (fun _ ht => ht) x (os_inN h hx)
    show tsize (N.os.map ρ) ((N.os.map ρ).map (dimN (N.ts.map (mapT ρ)))) ≠ -1
    rw [hos, tsize_map e (fun x hx y hy => hi x y (os_inN h hx) (os_inN h hy)) fun x hx => hb x (os_inN h hx)]
    exact e
theorem labelsL_in {N : Net} (h : netOk N = true) {x : Int} : x ∈ labelsL N ↔ inN N x := by
  have hax := netOk_ax h
  rw [labelsL, if_pos h]
  constructor
  · intro hx
    obtain ⟨i, _, hp, rfl⟩ := pickTo_mem hx
    unfold labP at hp
    simp only [bne_iff_ne, ne_eq] at hp
    exact dimN_some hp
  · intro hx
    have hne := dimN_ne hax hx
    have hb : 0 ≤ x ∧ x ≤ 99 := by
      by_cases hb : 0 ≤ x ∧ x ≤ 99
      · exact hb
      · exact absurd (dimN_out hax hb) hne
    simp only [pickTo, List.mem_map, List.mem_filter, List.mem_range]
    refine ⟨x.toNat, ⟨by omega, ?_⟩, by omega⟩
    unfold labP
    rw [show ((x.toNat : Nat) : Int) = x by omega]
    simpa using hne
theorem map_in {N : Net} (h : netOk (mapNet ρ N) = true) {x : Int} (hx : inN N x) : 0 ≤ ρ x ∧ ρ x ≤ 99 := by
  obtain ⟨t, ht, hm⟩ := hx
  have hax := netOk_ax h (mapT ρ t) (List.mem_map.2 ⟨t, ht, rfl⟩)
  obtain ⟨k, hk, e⟩ := List.getElem_of_mem (show ρ x ∈ (mapT ρ t).labels from List.mem_map.2 ⟨x, hm, rfl⟩)
  have := hax.2.2 k hk
  unfold axAt at this
  rw [getD_of hk, e] at this
  omega
/-- The reference's test of the new labels is the program's. -/
theorem map_yes {N : Net} (h : netOk N = true) (hx : ∀ i, (hi : i < ((labelsL N).map ρ).length) → (0 ≤ ((labelsL N).map ρ)[i] ∧ ((labelsL N).map ρ)[i] ≤ 99) ∧ ((labelsL N).map ρ)[i] ∉ ((labelsL N).map ρ).take i) : distL ((labelsL N).map ρ) ∧ netOk (mapNet ρ N) = true := by
  have hd : distL ((labelsL N).map ρ) := fun i hi => (hx i hi).2
  refine ⟨hd, netOk_map h (fun x y hx hy e => distL_inj hd ((labelsL_in h).2 hx) ((labelsL_in h).2 hy) e) fun x hin => ?_⟩
  obtain ⟨i, hi, e⟩ := List.getElem_of_mem (show ρ x ∈ (labelsL N).map ρ from List.mem_map.2 ⟨x, (labelsL_in h).2 hin, rfl⟩)
  have := (hx i hi).1
  rwa [e] at this
theorem map_no {N : Net} (h : netOk N = true) {i : Nat} (hi : i < ((labelsL N).map ρ).length) (hx : ¬ ((0 ≤ ((labelsL N).map ρ)[i] ∧ ((labelsL N).map ρ)[i] ≤ 99) ∧ ((labelsL N).map ρ)[i] ∉ ((labelsL N).map ρ).take i)) : ¬ (distL ((labelsL N).map ρ) ∧ netOk (mapNet ρ N) = true) := by
  rintro ⟨h1, h2⟩
  refine hx ⟨?_, h1 i hi⟩
  rw [List.getElem_map]
  exact map_in h2 ((labelsL_in h).1 (List.getElem_mem _))
end
end Go.Proofs.Ytcgnehacihjnkaa
