/-
  No cell of these rows narrows 'for every input' (looked for: loops, veiled, ifaces, maps, wideKeys, modest, calm, conditions, laid).
  DERIVED. THE GIVEN ROWS OF THIS SEAT. 12 by the template 'for every input the law returns true; each argument reads behind the call as it read before'; 0 by the template 'total and deterministic' (their statements: YtbebaoibniajpaaTotals.lean).
  GIVEN WITH THE SEED: the statements are not yours to turn. If you find one false, say at which input.
  Laid BY PROGRAM, IN A SANDBOX (cutbox-rows.mjs): the forced cells as the released guide's own fill.sh prints them over the translation 3cf9e6e312be65cf… (all of the seat's roots in one cut). By AI agents, Wed Nov 11 2026. No macro, syntax, notation, axiom, sorry.
-/
import Derived.Test.YtbebaoibniajpaaChecked
import GoSem.Claim
import GoSem.ClaimJoined
import GoSem.ClaimMapViews
import Derived.JoinedTies
import Derived.KernelRfl
namespace Go.Proofs.Ytbebaoibniajpaa
/- THE CELL 'sum', in the pinned program and in every row, IS THE sha256 OF THE DUMP (.gsa) THAT YtbebaoibniajpaaProg.lean LOADS. Nothing in Lean hashes anything: it is a label: what it is worth is what the hold of that sum in a sandbox is worth. -/
noncomputable def Try.pinned : Pinned := { name := "ytbebaoibniajpaa", sum := "3cf9e6e312be65cf395f11395b691a641a15f8302e2591da61e45c655de459a2", checked := Try.checked }
namespace Rows
def none {H : Type} : Left H := { results := [], args := [] }

/-- 'laws.FnExactNetworkOk': WHATEVER THE INPUT: true; the input reads as it did. -/
def fnExactNetworkOkSpec : ChangeSpec := { name := "fnExactNetworkOk", fn := fun _ => fun
  | [d] => { results := [.lit (.bool true)], args := [d] }
  | _ => none }
def fnExactNetworkOkRow : OpenClaim := { program := "ytbebaoibniajpaa", sum := "3cf9e6e312be65cf395f11395b691a641a15f8302e2591da61e45c655de459a2", func := "loop.example/g03211/laws.FnExactNetworkOk", spec := "fnExactNetworkOk", apart := false }
def FnExactNetworkOkSaid : Prop := fnExactNetworkOkRow.holds Try.pinned (OpenSpec.ofChange fnExactNetworkOkSpec)

/-- ITS FALSE NEIGHBOUR: 'it returns false'. Refute it at one input. -/
def fnExactNetworkOkWrong : ChangeSpec := { name := "fnExactNetworkOk", fn := fun _ => fun
  | [d] => { results := [.lit (.bool false)], args := [d] }
  | _ => none }
def FnExactNetworkOkWrongFalsely : Prop := fnExactNetworkOkRow.holds Try.pinned (OpenSpec.ofChange fnExactNetworkOkWrong)

/-- 'laws.FnExactDimOf': WHATEVER THE INPUT: true; the input reads as it did. -/
def fnExactDimOfSpec : ChangeSpec := { name := "fnExactDimOf", fn := fun _ => fun
  | [d1, d2] => { results := [.lit (.bool true)], args := [d1, d2] }
  | _ => none }
def fnExactDimOfRow : OpenClaim := { program := "ytbebaoibniajpaa", sum := "3cf9e6e312be65cf395f11395b691a641a15f8302e2591da61e45c655de459a2", func := "loop.example/g03211/laws.FnExactDimOf", spec := "fnExactDimOf", apart := false }
def FnExactDimOfSaid : Prop := fnExactDimOfRow.holds Try.pinned (OpenSpec.ofChange fnExactDimOfSpec)

/-- ITS FALSE NEIGHBOUR: 'it returns false'. Refute it at one input. -/
def fnExactDimOfWrong : ChangeSpec := { name := "fnExactDimOf", fn := fun _ => fun
  | [d1, d2] => { results := [.lit (.bool false)], args := [d1, d2] }
  | _ => none }
def FnExactDimOfWrongFalsely : Prop := fnExactDimOfRow.holds Try.pinned (OpenSpec.ofChange fnExactDimOfWrong)

/-- 'laws.FnExactCostBound': WHATEVER THE INPUT: true; the input reads as it did. -/
def fnExactCostBoundSpec : ChangeSpec := { name := "fnExactCostBound", fn := fun _ => fun
  | [d] => { results := [.lit (.bool true)], args := [d] }
  | _ => none }
def fnExactCostBoundRow : OpenClaim := { program := "ytbebaoibniajpaa", sum := "3cf9e6e312be65cf395f11395b691a641a15f8302e2591da61e45c655de459a2", func := "loop.example/g03211/laws.FnExactCostBound", spec := "fnExactCostBound", apart := false }
def FnExactCostBoundSaid : Prop := fnExactCostBoundRow.holds Try.pinned (OpenSpec.ofChange fnExactCostBoundSpec)

/-- ITS FALSE NEIGHBOUR: 'it returns false'. Refute it at one input. -/
def fnExactCostBoundWrong : ChangeSpec := { name := "fnExactCostBound", fn := fun _ => fun
  | [d] => { results := [.lit (.bool false)], args := [d] }
  | _ => none }
def FnExactCostBoundWrongFalsely : Prop := fnExactCostBoundRow.holds Try.pinned (OpenSpec.ofChange fnExactCostBoundWrong)

/-- 'laws.FnExactSplitLabel': WHATEVER THE INPUT: true; the input reads as it did. -/
def fnExactSplitLabelSpec : ChangeSpec := { name := "fnExactSplitLabel", fn := fun _ => fun
  | [d1, d2, d3, d4, d5] => { results := [.lit (.bool true)], args := [d1, d2, d3, d4, d5] }
  | _ => none }
def fnExactSplitLabelRow : OpenClaim := { program := "ytbebaoibniajpaa", sum := "3cf9e6e312be65cf395f11395b691a641a15f8302e2591da61e45c655de459a2", func := "loop.example/g03211/laws.FnExactSplitLabel", spec := "fnExactSplitLabel", apart := false }
def FnExactSplitLabelSaid : Prop := fnExactSplitLabelRow.holds Try.pinned (OpenSpec.ofChange fnExactSplitLabelSpec)

/-- ITS FALSE NEIGHBOUR: 'it returns false'. Refute it at one input. -/
def fnExactSplitLabelWrong : ChangeSpec := { name := "fnExactSplitLabel", fn := fun _ => fun
  | [d1, d2, d3, d4, d5] => { results := [.lit (.bool false)], args := [d1, d2, d3, d4, d5] }
  | _ => none }
def FnExactSplitLabelWrongFalsely : Prop := fnExactSplitLabelRow.holds Try.pinned (OpenSpec.ofChange fnExactSplitLabelWrong)

/-- 'laws.FnExactFixLabels': WHATEVER THE INPUT: true; the input reads as it did. -/
def fnExactFixLabelsSpec : ChangeSpec := { name := "fnExactFixLabels", fn := fun _ => fun
  | [d1, d2, d3, d4] => { results := [.lit (.bool true)], args := [d1, d2, d3, d4] }
  | _ => none }
def fnExactFixLabelsRow : OpenClaim := { program := "ytbebaoibniajpaa", sum := "3cf9e6e312be65cf395f11395b691a641a15f8302e2591da61e45c655de459a2", func := "loop.example/g03211/laws.FnExactFixLabels", spec := "fnExactFixLabels", apart := false }
def FnExactFixLabelsSaid : Prop := fnExactFixLabelsRow.holds Try.pinned (OpenSpec.ofChange fnExactFixLabelsSpec)

/-- ITS FALSE NEIGHBOUR: 'it returns false'. Refute it at one input. -/
def fnExactFixLabelsWrong : ChangeSpec := { name := "fnExactFixLabels", fn := fun _ => fun
  | [d1, d2, d3, d4] => { results := [.lit (.bool false)], args := [d1, d2, d3, d4] }
  | _ => none }
def FnExactFixLabelsWrongFalsely : Prop := fnExactFixLabelsRow.holds Try.pinned (OpenSpec.ofChange fnExactFixLabelsWrong)

/-- 'laws.FnExactFuseLabels': WHATEVER THE INPUT: true; the input reads as it did. -/
def fnExactFuseLabelsSpec : ChangeSpec := { name := "fnExactFuseLabels", fn := fun _ => fun
  | [d1, d2, d3, d4] => { results := [.lit (.bool true)], args := [d1, d2, d3, d4] }
  | _ => none }
def fnExactFuseLabelsRow : OpenClaim := { program := "ytbebaoibniajpaa", sum := "3cf9e6e312be65cf395f11395b691a641a15f8302e2591da61e45c655de459a2", func := "loop.example/g03211/laws.FnExactFuseLabels", spec := "fnExactFuseLabels", apart := false }
def FnExactFuseLabelsSaid : Prop := fnExactFuseLabelsRow.holds Try.pinned (OpenSpec.ofChange fnExactFuseLabelsSpec)

/-- ITS FALSE NEIGHBOUR: 'it returns false'. Refute it at one input. -/
def fnExactFuseLabelsWrong : ChangeSpec := { name := "fnExactFuseLabels", fn := fun _ => fun
  | [d1, d2, d3, d4] => { results := [.lit (.bool false)], args := [d1, d2, d3, d4] }
  | _ => none }
def FnExactFuseLabelsWrongFalsely : Prop := fnExactFuseLabelsRow.holds Try.pinned (OpenSpec.ofChange fnExactFuseLabelsWrong)

/-- 'laws.FnExactLabelsOf': WHATEVER THE INPUT: true; the input reads as it did. -/
def fnExactLabelsOfSpec : ChangeSpec := { name := "fnExactLabelsOf", fn := fun _ => fun
  | [d] => { results := [.lit (.bool true)], args := [d] }
  | _ => none }
def fnExactLabelsOfRow : OpenClaim := { program := "ytbebaoibniajpaa", sum := "3cf9e6e312be65cf395f11395b691a641a15f8302e2591da61e45c655de459a2", func := "loop.example/g03211/laws.FnExactLabelsOf", spec := "fnExactLabelsOf", apart := false }
def FnExactLabelsOfSaid : Prop := fnExactLabelsOfRow.holds Try.pinned (OpenSpec.ofChange fnExactLabelsOfSpec)

/-- ITS FALSE NEIGHBOUR: 'it returns false'. Refute it at one input. -/
def fnExactLabelsOfWrong : ChangeSpec := { name := "fnExactLabelsOf", fn := fun _ => fun
  | [d] => { results := [.lit (.bool false)], args := [d] }
  | _ => none }
def FnExactLabelsOfWrongFalsely : Prop := fnExactLabelsOfRow.holds Try.pinned (OpenSpec.ofChange fnExactLabelsOfWrong)

/-- 'laws.FnExactUsesOf': WHATEVER THE INPUT: true; the input reads as it did. -/
def fnExactUsesOfSpec : ChangeSpec := { name := "fnExactUsesOf", fn := fun _ => fun
  | [d1, d2] => { results := [.lit (.bool true)], args := [d1, d2] }
  | _ => none }
def fnExactUsesOfRow : OpenClaim := { program := "ytbebaoibniajpaa", sum := "3cf9e6e312be65cf395f11395b691a641a15f8302e2591da61e45c655de459a2", func := "loop.example/g03211/laws.FnExactUsesOf", spec := "fnExactUsesOf", apart := false }
def FnExactUsesOfSaid : Prop := fnExactUsesOfRow.holds Try.pinned (OpenSpec.ofChange fnExactUsesOfSpec)

/-- ITS FALSE NEIGHBOUR: 'it returns false'. Refute it at one input. -/
def fnExactUsesOfWrong : ChangeSpec := { name := "fnExactUsesOf", fn := fun _ => fun
  | [d1, d2] => { results := [.lit (.bool false)], args := [d1, d2] }
  | _ => none }
def FnExactUsesOfWrongFalsely : Prop := fnExactUsesOfRow.holds Try.pinned (OpenSpec.ofChange fnExactUsesOfWrong)

/-- 'laws.FnExactEliminationOk': WHATEVER THE INPUT: true; the input reads as it did. -/
def fnExactEliminationOkSpec : ChangeSpec := { name := "fnExactEliminationOk", fn := fun _ => fun
  | [d1, d2] => { results := [.lit (.bool true)], args := [d1, d2] }
  | _ => none }
def fnExactEliminationOkRow : OpenClaim := { program := "ytbebaoibniajpaa", sum := "3cf9e6e312be65cf395f11395b691a641a15f8302e2591da61e45c655de459a2", func := "loop.example/g03211/laws.FnExactEliminationOk", spec := "fnExactEliminationOk", apart := false }
def FnExactEliminationOkSaid : Prop := fnExactEliminationOkRow.holds Try.pinned (OpenSpec.ofChange fnExactEliminationOkSpec)

/-- ITS FALSE NEIGHBOUR: 'it returns false'. Refute it at one input. -/
def fnExactEliminationOkWrong : ChangeSpec := { name := "fnExactEliminationOk", fn := fun _ => fun
  | [d1, d2] => { results := [.lit (.bool false)], args := [d1, d2] }
  | _ => none }
def FnExactEliminationOkWrongFalsely : Prop := fnExactEliminationOkRow.holds Try.pinned (OpenSpec.ofChange fnExactEliminationOkWrong)

/-- 'laws.FnExactNeighborsOf': WHATEVER THE INPUT: true; the input reads as it did. -/
def fnExactNeighborsOfSpec : ChangeSpec := { name := "fnExactNeighborsOf", fn := fun _ => fun
  | [d1, d2] => { results := [.lit (.bool true)], args := [d1, d2] }
  | _ => none }
def fnExactNeighborsOfRow : OpenClaim := { program := "ytbebaoibniajpaa", sum := "3cf9e6e312be65cf395f11395b691a641a15f8302e2591da61e45c655de459a2", func := "loop.example/g03211/laws.FnExactNeighborsOf", spec := "fnExactNeighborsOf", apart := false }
def FnExactNeighborsOfSaid : Prop := fnExactNeighborsOfRow.holds Try.pinned (OpenSpec.ofChange fnExactNeighborsOfSpec)

/-- ITS FALSE NEIGHBOUR: 'it returns false'. Refute it at one input. -/
def fnExactNeighborsOfWrong : ChangeSpec := { name := "fnExactNeighborsOf", fn := fun _ => fun
  | [d1, d2] => { results := [.lit (.bool false)], args := [d1, d2] }
  | _ => none }
def FnExactNeighborsOfWrongFalsely : Prop := fnExactNeighborsOfRow.holds Try.pinned (OpenSpec.ofChange fnExactNeighborsOfWrong)

/-- 'laws.FnExactClosedLabels': WHATEVER THE INPUT: true; the input reads as it did. -/
def fnExactClosedLabelsSpec : ChangeSpec := { name := "fnExactClosedLabels", fn := fun _ => fun
  | [d] => { results := [.lit (.bool true)], args := [d] }
  | _ => none }
def fnExactClosedLabelsRow : OpenClaim := { program := "ytbebaoibniajpaa", sum := "3cf9e6e312be65cf395f11395b691a641a15f8302e2591da61e45c655de459a2", func := "loop.example/g03211/laws.FnExactClosedLabels", spec := "fnExactClosedLabels", apart := false }
def FnExactClosedLabelsSaid : Prop := fnExactClosedLabelsRow.holds Try.pinned (OpenSpec.ofChange fnExactClosedLabelsSpec)

/-- ITS FALSE NEIGHBOUR: 'it returns false'. Refute it at one input. -/
def fnExactClosedLabelsWrong : ChangeSpec := { name := "fnExactClosedLabels", fn := fun _ => fun
  | [d] => { results := [.lit (.bool false)], args := [d] }
  | _ => none }
def FnExactClosedLabelsWrongFalsely : Prop := fnExactClosedLabelsRow.holds Try.pinned (OpenSpec.ofChange fnExactClosedLabelsWrong)

/-- 'laws.FnExactSliceCount': WHATEVER THE INPUT: true; the input reads as it did. -/
def fnExactSliceCountSpec : ChangeSpec := { name := "fnExactSliceCount", fn := fun _ => fun
  | [d1, d2] => { results := [.lit (.bool true)], args := [d1, d2] }
  | _ => none }
def fnExactSliceCountRow : OpenClaim := { program := "ytbebaoibniajpaa", sum := "3cf9e6e312be65cf395f11395b691a641a15f8302e2591da61e45c655de459a2", func := "loop.example/g03211/laws.FnExactSliceCount", spec := "fnExactSliceCount", apart := false }
def FnExactSliceCountSaid : Prop := fnExactSliceCountRow.holds Try.pinned (OpenSpec.ofChange fnExactSliceCountSpec)

/-- ITS FALSE NEIGHBOUR: 'it returns false'. Refute it at one input. -/
def fnExactSliceCountWrong : ChangeSpec := { name := "fnExactSliceCount", fn := fun _ => fun
  | [d1, d2] => { results := [.lit (.bool false)], args := [d1, d2] }
  | _ => none }
def FnExactSliceCountWrongFalsely : Prop := fnExactSliceCountRow.holds Try.pinned (OpenSpec.ofChange fnExactSliceCountWrong)

/- THE SECOND FORM. 'bulk': how many values and letters a reading holds, each counted each time it is reached (what is shared counts as often as it is met; a slice's spare places count too). A statement '..UptoSaid' is the law's where the arguments, and the package variables that the reading takes, are together of bulk at most 1048576: NARROWER than '..Said'. Prove '..Said' where nothing that the law and all that it calls make is longer than what came in: it says more and counts as full. Else prove '..UptoSaid'. A law counts once. -/
mutual
def uptoBulk {H : Type} : DataW H → Nat
  | .lit (.string bytes) => bytes.length + 1
  | .lit _ => 1
  | .nil => 1
  | .ptr d => uptoBulk d + 1
  | .slice elems spare => uptoBulkAll elems + uptoBulkAll spare + 1
  | .agg parts => uptoBulkAll parts + 1
  | .iface _ d => uptoBulk d + 1
  | .map entries => uptoBulkEntries entries + 1
  | .held _ => 1
def uptoBulkAll {H : Type} : List (DataW H) → Nat
  | [] => 0
  | d :: r => uptoBulk d + uptoBulkAll r
def uptoBulkEntries {H : Type} : List (Lit × DataW H) → Nat
  | [] => 0
  | x :: r => uptoBulkEntry x + uptoBulkEntries r
def uptoBulkEntry {H : Type} : Lit × DataW H → Nat
  | (.string bytes, d) => bytes.length + uptoBulk d + 1
  | (_, d) => uptoBulk d + 1
 end
def uptoSmall : (H : Type) → List (DataW H) → Bool := fun _ ds => decide (uptoBulkAll ds ≤ 1048576)
def OpenSpec.upto (s : _root_.Go.ChangeSpec) : _root_.Go.OpenSpec := { _root_.Go.OpenSpec.ofChange s with cond := some uptoSmall }

/-- 'laws.FnExactNetworkOk', WHERE WHAT IT READS IS OF BULK AT MOST 1048576: true; the input reads as it did. -/
def fnExactNetworkOkUptoRow : OpenClaim := { program := "ytbebaoibniajpaa", sum := "3cf9e6e312be65cf395f11395b691a641a15f8302e2591da61e45c655de459a2", func := "loop.example/g03211/laws.FnExactNetworkOk", spec := "fnExactNetworkOk", apart := false, narrowed := true }
def FnExactNetworkOkUptoSaid : Prop := fnExactNetworkOkUptoRow.holds Try.pinned (OpenSpec.upto fnExactNetworkOkSpec)

/-- 'laws.FnExactDimOf', WHERE WHAT IT READS IS OF BULK AT MOST 1048576: true; the input reads as it did. -/
def fnExactDimOfUptoRow : OpenClaim := { program := "ytbebaoibniajpaa", sum := "3cf9e6e312be65cf395f11395b691a641a15f8302e2591da61e45c655de459a2", func := "loop.example/g03211/laws.FnExactDimOf", spec := "fnExactDimOf", apart := false, narrowed := true }
def FnExactDimOfUptoSaid : Prop := fnExactDimOfUptoRow.holds Try.pinned (OpenSpec.upto fnExactDimOfSpec)

/-- 'laws.FnExactCostBound', WHERE WHAT IT READS IS OF BULK AT MOST 1048576: true; the input reads as it did. -/
def fnExactCostBoundUptoRow : OpenClaim := { program := "ytbebaoibniajpaa", sum := "3cf9e6e312be65cf395f11395b691a641a15f8302e2591da61e45c655de459a2", func := "loop.example/g03211/laws.FnExactCostBound", spec := "fnExactCostBound", apart := false, narrowed := true }
def FnExactCostBoundUptoSaid : Prop := fnExactCostBoundUptoRow.holds Try.pinned (OpenSpec.upto fnExactCostBoundSpec)

/-- 'laws.FnExactSplitLabel', WHERE WHAT IT READS IS OF BULK AT MOST 1048576: true; the input reads as it did. -/
def fnExactSplitLabelUptoRow : OpenClaim := { program := "ytbebaoibniajpaa", sum := "3cf9e6e312be65cf395f11395b691a641a15f8302e2591da61e45c655de459a2", func := "loop.example/g03211/laws.FnExactSplitLabel", spec := "fnExactSplitLabel", apart := false, narrowed := true }
def FnExactSplitLabelUptoSaid : Prop := fnExactSplitLabelUptoRow.holds Try.pinned (OpenSpec.upto fnExactSplitLabelSpec)

/-- 'laws.FnExactFixLabels', WHERE WHAT IT READS IS OF BULK AT MOST 1048576: true; the input reads as it did. -/
def fnExactFixLabelsUptoRow : OpenClaim := { program := "ytbebaoibniajpaa", sum := "3cf9e6e312be65cf395f11395b691a641a15f8302e2591da61e45c655de459a2", func := "loop.example/g03211/laws.FnExactFixLabels", spec := "fnExactFixLabels", apart := false, narrowed := true }
def FnExactFixLabelsUptoSaid : Prop := fnExactFixLabelsUptoRow.holds Try.pinned (OpenSpec.upto fnExactFixLabelsSpec)

/-- 'laws.FnExactFuseLabels', WHERE WHAT IT READS IS OF BULK AT MOST 1048576: true; the input reads as it did. -/
def fnExactFuseLabelsUptoRow : OpenClaim := { program := "ytbebaoibniajpaa", sum := "3cf9e6e312be65cf395f11395b691a641a15f8302e2591da61e45c655de459a2", func := "loop.example/g03211/laws.FnExactFuseLabels", spec := "fnExactFuseLabels", apart := false, narrowed := true }
def FnExactFuseLabelsUptoSaid : Prop := fnExactFuseLabelsUptoRow.holds Try.pinned (OpenSpec.upto fnExactFuseLabelsSpec)

/-- 'laws.FnExactLabelsOf', WHERE WHAT IT READS IS OF BULK AT MOST 1048576: true; the input reads as it did. -/
def fnExactLabelsOfUptoRow : OpenClaim := { program := "ytbebaoibniajpaa", sum := "3cf9e6e312be65cf395f11395b691a641a15f8302e2591da61e45c655de459a2", func := "loop.example/g03211/laws.FnExactLabelsOf", spec := "fnExactLabelsOf", apart := false, narrowed := true }
def FnExactLabelsOfUptoSaid : Prop := fnExactLabelsOfUptoRow.holds Try.pinned (OpenSpec.upto fnExactLabelsOfSpec)

/-- 'laws.FnExactUsesOf', WHERE WHAT IT READS IS OF BULK AT MOST 1048576: true; the input reads as it did. -/
def fnExactUsesOfUptoRow : OpenClaim := { program := "ytbebaoibniajpaa", sum := "3cf9e6e312be65cf395f11395b691a641a15f8302e2591da61e45c655de459a2", func := "loop.example/g03211/laws.FnExactUsesOf", spec := "fnExactUsesOf", apart := false, narrowed := true }
def FnExactUsesOfUptoSaid : Prop := fnExactUsesOfUptoRow.holds Try.pinned (OpenSpec.upto fnExactUsesOfSpec)

/-- 'laws.FnExactEliminationOk', WHERE WHAT IT READS IS OF BULK AT MOST 1048576: true; the input reads as it did. -/
def fnExactEliminationOkUptoRow : OpenClaim := { program := "ytbebaoibniajpaa", sum := "3cf9e6e312be65cf395f11395b691a641a15f8302e2591da61e45c655de459a2", func := "loop.example/g03211/laws.FnExactEliminationOk", spec := "fnExactEliminationOk", apart := false, narrowed := true }
def FnExactEliminationOkUptoSaid : Prop := fnExactEliminationOkUptoRow.holds Try.pinned (OpenSpec.upto fnExactEliminationOkSpec)

/-- 'laws.FnExactNeighborsOf', WHERE WHAT IT READS IS OF BULK AT MOST 1048576: true; the input reads as it did. -/
def fnExactNeighborsOfUptoRow : OpenClaim := { program := "ytbebaoibniajpaa", sum := "3cf9e6e312be65cf395f11395b691a641a15f8302e2591da61e45c655de459a2", func := "loop.example/g03211/laws.FnExactNeighborsOf", spec := "fnExactNeighborsOf", apart := false, narrowed := true }
def FnExactNeighborsOfUptoSaid : Prop := fnExactNeighborsOfUptoRow.holds Try.pinned (OpenSpec.upto fnExactNeighborsOfSpec)

/-- 'laws.FnExactClosedLabels', WHERE WHAT IT READS IS OF BULK AT MOST 1048576: true; the input reads as it did. -/
def fnExactClosedLabelsUptoRow : OpenClaim := { program := "ytbebaoibniajpaa", sum := "3cf9e6e312be65cf395f11395b691a641a15f8302e2591da61e45c655de459a2", func := "loop.example/g03211/laws.FnExactClosedLabels", spec := "fnExactClosedLabels", apart := false, narrowed := true }
def FnExactClosedLabelsUptoSaid : Prop := fnExactClosedLabelsUptoRow.holds Try.pinned (OpenSpec.upto fnExactClosedLabelsSpec)

/-- 'laws.FnExactSliceCount', WHERE WHAT IT READS IS OF BULK AT MOST 1048576: true; the input reads as it did. -/
def fnExactSliceCountUptoRow : OpenClaim := { program := "ytbebaoibniajpaa", sum := "3cf9e6e312be65cf395f11395b691a641a15f8302e2591da61e45c655de459a2", func := "loop.example/g03211/laws.FnExactSliceCount", spec := "fnExactSliceCount", apart := false, narrowed := true }
def FnExactSliceCountUptoSaid : Prop := fnExactSliceCountUptoRow.holds Try.pinned (OpenSpec.upto fnExactSliceCountSpec)

end Rows
end Go.Proofs.Ytbebaoibniajpaa
