/-
  Regions that draw their order, operation by operation: taking first what yields, and passing over all whose guard says no. No condition.
-/
import Derived.Test.YtmgifmgdfldheaaBase
import Derived.Deep.RegionHeld3
namespace Go.Proofs.Ytmgifmgdfldheaa
open Go.RowKit

section
variable {P : Program} {l : List Oper} {Q : Exit → Act → World → Prop} {md : Region.Mode} {S : World → Prop} {fuel : Nat} {listed : Array Bool} {a : Act} {w : World}

/-- The operation number i is carried out first. -/
theorem takeL (i : Nat) {oi : Oper} {v : Value} (hi : l[i]? = some oi) (hs : Region.noSelect l.toArray = true) (hf : Region.free md l.toArray listed i = true) (hr : (Region.ready md l.toArray listed).contains i = true)
    (hQ : ∀ c a w, Q (.panic c) (a.put oi.dst v) w → Q (.panic c) a w) (hw : Region.wanted oi (yielded l.toArray a.tmps) = true) (hy : ∀ w, S w → (execOp a.eval oi).run P w = .ok (.value v) w) (hS : S w)
    (h : wpAnyH P md l.toArray Q S fuel (listed.setIfInBounds i true) (a.put oi.dst v) w) : wpAnyH P md l.toArray Q S (fuel + 1) listed a w :=
  wpAnyH_take (by simpa using hi) hs hf hr hQ (.inl ⟨hw, hy⟩) hS h

/-- May these operations be passed over, one behind the other: each is ready, waits for nobody, and its guard says no? -/
def deadOk (md : Region.Mode) (l : List Oper) : List Nat → Array Bool → Array Value → Bool
  | [], _, _ => true
  | i :: is, listed, tmps =>
    match l[i]? with
    | none => false
    | some o => Region.free md l.toArray listed i && (Region.ready md l.toArray listed).contains i && !(Region.wanted o (yielded l.toArray tmps)) &&
        deadOk md l is (listed.setIfInBounds i true) (match o.dst with | some d => tmps.setIfInBounds d undef | none => tmps)
def deadListed : List Nat → Array Bool → Array Bool
  | [], listed => listed
  | i :: is, listed => deadListed is (listed.setIfInBounds i true)
def deadTmps (l : List Oper) : List Nat → Array Value → Array Value
  | [], tmps => tmps
  | i :: is, tmps => deadTmps l is (match (l[i]?).bind (·.dst) with | some d => tmps.setIfInBounds d undef | none => tmps)

theorem passL (hs : Region.noSelect l.toArray = true) (hQ : ∀ c ts ts' ds w, Q (.panic c) ⟨ts', ds⟩ w → Q (.panic c) ⟨ts, ds⟩ w) (hS : S w) :
    ∀ (is : List Nat) (listed : Array Bool) (tmps : Array Value) (ds : List Deferred), deadOk md l is listed tmps = true →
      wpAnyH P md l.toArray Q S fuel (deadListed is listed) ⟨deadTmps l is tmps, ds⟩ w → wpAnyH P md l.toArray Q S (fuel + is.length) listed ⟨tmps, ds⟩ w := by
  intro is
  induction is with
  | nil => intro listed tmps ds _ h; exact h
  | cons i is ih =>
    intro listed tmps ds hok h
    unfold deadOk at hok
    split at hok
    · cases hok
    · rename_i o ho
      simp only [Bool.and_eq_true, Bool.not_eq_true'] at hok
      obtain ⟨⟨⟨h1, h2⟩, h3⟩, h4⟩ := hok
      have e : deadTmps l (i :: is) tmps = deadTmps l is (match o.dst with | some d => tmps.setIfInBounds d undef | none => tmps) := by
        show deadTmps l is _ = _
        rw [ho]; rfl
      rw [e] at h
      have h5 := ih _ _ ds h4 h
      refine wpAnyH_take (i := i) (oi := o) (v := undef) (by simpa using ho) hs h1 h2 (fun c a w h => by
        obtain ⟨ts, d0⟩ := a
        refine hQ c ts (Act.put ⟨ts, d0⟩ o.dst undef).tmps d0 w ?_
        have e3 : Act.put ⟨ts, d0⟩ o.dst undef = ⟨(Act.put ⟨ts, d0⟩ o.dst undef).tmps, d0⟩ := by unfold Act.put; cases o.dst <;> rfl
        rw [e3] at h
        exact h) (.inr ⟨h3, rfl⟩) hS ?_
      have e2 : (⟨tmps, ds⟩ : Act).put o.dst undef = ⟨(match o.dst with | some d => tmps.setIfInBounds d undef | none => tmps), ds⟩ := by
        unfold Act.put; cases o.dst <;> rfl
      rw [e2]
      exact h5

/-- The one operation that may come up now is number i: a call. -/
theorem callL (i : Nat) {oi : Oper} (hi : l[i]? = some oi) (hr : Region.ready md l.toArray listed = [i])
    (h : ∀ K' : Act → World → Prop, Shut (∀ a w, S w → (S w → wpAnyH P md l.toArray Q S fuel (listed.setIfInBounds i true) a w) → K' a w) → if Region.wanted oi (yielded l.toArray a.tmps) = true then Oper.wp P oi a w K' Q else K' (a.put oi.dst undef) w) :
    wpAnyH P md l.toArray Q S (fuel + 1) listed a w :=
  wpAnyH_ready hr (by simp) (AllReadyH.cons (by simpa using hi) h AllReadyH.nil)
end

end Go.Proofs.Ytmgifmgdfldheaa
