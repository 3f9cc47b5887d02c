/-
  DERIVED. GIVEN WITH THE SEED: THE CARDS: each row of YtodlbhjnmdhjiaaDoorRows.lean that lists a variable, with what it lists TIED to the program's text (the seventh form; the later family's looks); each row that meets fmt, with fmt's text TOLD by the authors' own Lean function (tested against real Go, not proved from fmt's source: count such statements apart). THE CARD IS WHAT COUNTS. Prove the row's statement (the work); the ties are given (YtodlbhjnmdhjiaaDoorTie.lean); close each card by the builder's one call (the guide's Derived/Test/ToyasCard.lean, 'card_holds'). Laid BY PROGRAM, IN A SANDBOX (cutbox-door.mjs). By AI agents, Wed Nov 11 2026. No macro, syntax, notation, axiom, sorry.
-/
import Derived.Test.YtodlbhjnmdhjiaaDoorRows
import GoSem.ClaimSeven
namespace Go.Proofs.YtodlbhjnmdhjiaaDoor
namespace Rows

/-- THE TIED CARD OF 'laws.FnExactFormatTensor'. -/
def fnExactFormatTensorCard : Claim7 := { stood := { row := fnExactFormatTensorRow, standIns := [], harness := (true, "0580ed5b76431197334a41227687631b355dc36b814d7f90d6ebc8af8b4f14b4"), looks := false }, kinds := [], alts := [], laidByText := true, laidKinds := [.data, .data, .data], laidTests := true, laidLooks := .later }
def FnExactFormatTensorCardSaid : Prop := Claim7.holds Tryd.pinned (.plain (OpenSpec.ofChange fnExactFormatTensorSpec)) fnExactFormatTensorCard

/-- THE SECOND FORM's CARD OF 'laws.FnExactFormatTensor'. -/
def fnExactFormatTensorUptoCard : Claim7 := { stood := { row := fnExactFormatTensorUptoRow, standIns := [], harness := (true, "0580ed5b76431197334a41227687631b355dc36b814d7f90d6ebc8af8b4f14b4"), looks := false }, kinds := [], alts := [], laidByText := true, laidKinds := [.data, .data, .data], laidTests := true, laidLooks := .later }
def FnExactFormatTensorUptoCardSaid : Prop := Claim7.holds Tryd.pinned (.plain (OpenSpec.upto fnExactFormatTensorSpec)) fnExactFormatTensorUptoCard
end Rows
end Go.Proofs.YtodlbhjnmdhjiaaDoor
