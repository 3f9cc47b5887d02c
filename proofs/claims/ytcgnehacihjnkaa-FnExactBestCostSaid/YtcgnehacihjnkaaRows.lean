/-
  No cell of these rows narrows 'for every input' (looked for: loops, veiled, ifaces, maps, wideKeys, modest, calm, conditions, laid).
  DERIVED. THE GIVEN ROWS OF THIS SEAT. 11 by the template 'for every input the law returns true; each argument reads behind the call as it read before'; 0 by the template 'total and deterministic' (their statements: YtcgnehacihjnkaaTotals.lean).
  GIVEN WITH THE SEED: the statements are not yours to turn. If you find one false, say at which input.
  Laid BY PROGRAM, IN A SANDBOX (cutbox-rows.mjs): the forced cells as the released guide's own fill.sh prints them over the translation d397fe6d7f469575… (all of the seat's roots in one cut). By AI agents, Wed Nov 11 2026. No macro, syntax, notation, axiom, sorry.
-/
import Derived.Test.YtcgnehacihjnkaaChecked
import GoSem.Claim
import GoSem.ClaimJoined
import GoSem.ClaimMapViews
import Derived.JoinedTies
import Derived.KernelRfl
namespace Go.Proofs.Ytcgnehacihjnkaa
/- THE CELL 'sum', in the pinned program and in every row, IS THE sha256 OF THE DUMP (.gsa) THAT YtcgnehacihjnkaaProg.lean LOADS. Nothing in Lean hashes anything: it is a label: what it is worth is what the hold of that sum in a sandbox is worth. -/
noncomputable def Try.pinned : Pinned := { name := "ytcgnehacihjnkaa", sum := "d397fe6d7f46957590d5b7fd158bdbb4e76bc959016e062fca24fd8d3954054d", checked := Try.checked }
namespace Rows
def none {H : Type} : Left H := { results := [], args := [] }

/-- 'laws.FnExactSubNetwork': WHATEVER THE INPUT: true; the input reads as it did. -/
def fnExactSubNetworkSpec : ChangeSpec := { name := "fnExactSubNetwork", fn := fun _ => fun
  | [d1, d2] => { results := [.lit (.bool true)], args := [d1, d2] }
  | _ => none }
def fnExactSubNetworkRow : OpenClaim := { program := "ytcgnehacihjnkaa", sum := "d397fe6d7f46957590d5b7fd158bdbb4e76bc959016e062fca24fd8d3954054d", func := "loop.example/g03211/laws.FnExactSubNetwork", spec := "fnExactSubNetwork", apart := false }
def FnExactSubNetworkSaid : Prop := fnExactSubNetworkRow.holds Try.pinned (OpenSpec.ofChange fnExactSubNetworkSpec)

/-- ITS FALSE NEIGHBOUR: 'it returns false'. Refute it at one input. -/
def fnExactSubNetworkWrong : ChangeSpec := { name := "fnExactSubNetwork", fn := fun _ => fun
  | [d1, d2] => { results := [.lit (.bool false)], args := [d1, d2] }
  | _ => none }
def FnExactSubNetworkWrongFalsely : Prop := fnExactSubNetworkRow.holds Try.pinned (OpenSpec.ofChange fnExactSubNetworkWrong)

/-- 'laws.FnExactBestCost': WHATEVER THE INPUT: true; the input reads as it did. -/
def fnExactBestCostSpec : ChangeSpec := { name := "fnExactBestCost", fn := fun _ => fun
  | [d] => { results := [.lit (.bool true)], args := [d] }
  | _ => none }
def fnExactBestCostRow : OpenClaim := { program := "ytcgnehacihjnkaa", sum := "d397fe6d7f46957590d5b7fd158bdbb4e76bc959016e062fca24fd8d3954054d", func := "loop.example/g03211/laws.FnExactBestCost", spec := "fnExactBestCost", apart := false }
def FnExactBestCostSaid : Prop := fnExactBestCostRow.holds Try.pinned (OpenSpec.ofChange fnExactBestCostSpec)

/-- ITS FALSE NEIGHBOUR: 'it returns false'. Refute it at one input. -/
def fnExactBestCostWrong : ChangeSpec := { name := "fnExactBestCost", fn := fun _ => fun
  | [d] => { results := [.lit (.bool false)], args := [d] }
  | _ => none }
def FnExactBestCostWrongFalsely : Prop := fnExactBestCostRow.holds Try.pinned (OpenSpec.ofChange fnExactBestCostWrong)

/-- 'laws.FnExactRelabelNetwork': WHATEVER THE INPUT: true; the input reads as it did. -/
def fnExactRelabelNetworkSpec : ChangeSpec := { name := "fnExactRelabelNetwork", fn := fun _ => fun
  | [d1, d2, d3] => { results := [.lit (.bool true)], args := [d1, d2, d3] }
  | _ => none }
def fnExactRelabelNetworkRow : OpenClaim := { program := "ytcgnehacihjnkaa", sum := "d397fe6d7f46957590d5b7fd158bdbb4e76bc959016e062fca24fd8d3954054d", func := "loop.example/g03211/laws.FnExactRelabelNetwork", spec := "fnExactRelabelNetwork", apart := false }
def FnExactRelabelNetworkSaid : Prop := fnExactRelabelNetworkRow.holds Try.pinned (OpenSpec.ofChange fnExactRelabelNetworkSpec)

/-- ITS FALSE NEIGHBOUR: 'it returns false'. Refute it at one input. -/
def fnExactRelabelNetworkWrong : ChangeSpec := { name := "fnExactRelabelNetwork", fn := fun _ => fun
  | [d1, d2, d3] => { results := [.lit (.bool false)], args := [d1, d2, d3] }
  | _ => none }
def FnExactRelabelNetworkWrongFalsely : Prop := fnExactRelabelNetworkRow.holds Try.pinned (OpenSpec.ofChange fnExactRelabelNetworkWrong)

/-- 'laws.FnExactMultiplyTensors': WHATEVER THE INPUT: true; the input reads as it did. -/
def fnExactMultiplyTensorsSpec : ChangeSpec := { name := "fnExactMultiplyTensors", fn := fun _ => fun
  | [d1, d2, d3] => { results := [.lit (.bool true)], args := [d1, d2, d3] }
  | _ => none }
def fnExactMultiplyTensorsRow : OpenClaim := { program := "ytcgnehacihjnkaa", sum := "d397fe6d7f46957590d5b7fd158bdbb4e76bc959016e062fca24fd8d3954054d", func := "loop.example/g03211/laws.FnExactMultiplyTensors", spec := "fnExactMultiplyTensors", apart := false }
def FnExactMultiplyTensorsSaid : Prop := fnExactMultiplyTensorsRow.holds Try.pinned (OpenSpec.ofChange fnExactMultiplyTensorsSpec)

/-- ITS FALSE NEIGHBOUR: 'it returns false'. Refute it at one input. -/
def fnExactMultiplyTensorsWrong : ChangeSpec := { name := "fnExactMultiplyTensors", fn := fun _ => fun
  | [d1, d2, d3] => { results := [.lit (.bool false)], args := [d1, d2, d3] }
  | _ => none }
def FnExactMultiplyTensorsWrongFalsely : Prop := fnExactMultiplyTensorsRow.holds Try.pinned (OpenSpec.ofChange fnExactMultiplyTensorsWrong)

/-- 'laws.FnExactBestWidth': WHATEVER THE INPUT: true; the input reads as it did. -/
def fnExactBestWidthSpec : ChangeSpec := { name := "fnExactBestWidth", fn := fun _ => fun
  | [d] => { results := [.lit (.bool true)], args := [d] }
  | _ => none }
def fnExactBestWidthRow : OpenClaim := { program := "ytcgnehacihjnkaa", sum := "d397fe6d7f46957590d5b7fd158bdbb4e76bc959016e062fca24fd8d3954054d", func := "loop.example/g03211/laws.FnExactBestWidth", spec := "fnExactBestWidth", apart := false }
def FnExactBestWidthSaid : Prop := fnExactBestWidthRow.holds Try.pinned (OpenSpec.ofChange fnExactBestWidthSpec)

/-- ITS FALSE NEIGHBOUR: 'it returns false'. Refute it at one input. -/
def fnExactBestWidthWrong : ChangeSpec := { name := "fnExactBestWidth", fn := fun _ => fun
  | [d] => { results := [.lit (.bool false)], args := [d] }
  | _ => none }
def FnExactBestWidthWrongFalsely : Prop := fnExactBestWidthRow.holds Try.pinned (OpenSpec.ofChange fnExactBestWidthWrong)

/-- 'laws.FnExactDecompositionOk': WHATEVER THE INPUT: true; the input reads as it did. -/
def fnExactDecompositionOkSpec : ChangeSpec := { name := "fnExactDecompositionOk", fn := fun _ => fun
  | [d1, d2] => { results := [.lit (.bool true)], args := [d1, d2] }
  | _ => none }
def fnExactDecompositionOkRow : OpenClaim := { program := "ytcgnehacihjnkaa", sum := "d397fe6d7f46957590d5b7fd158bdbb4e76bc959016e062fca24fd8d3954054d", func := "loop.example/g03211/laws.FnExactDecompositionOk", spec := "fnExactDecompositionOk", apart := false }
def FnExactDecompositionOkSaid : Prop := fnExactDecompositionOkRow.holds Try.pinned (OpenSpec.ofChange fnExactDecompositionOkSpec)

/-- ITS FALSE NEIGHBOUR: 'it returns false'. Refute it at one input. -/
def fnExactDecompositionOkWrong : ChangeSpec := { name := "fnExactDecompositionOk", fn := fun _ => fun
  | [d1, d2] => { results := [.lit (.bool false)], args := [d1, d2] }
  | _ => none }
def FnExactDecompositionOkWrongFalsely : Prop := fnExactDecompositionOkRow.holds Try.pinned (OpenSpec.ofChange fnExactDecompositionOkWrong)

/-- 'laws.FnExactMinDegreeOrder': WHATEVER THE INPUT: true; the input reads as it did. -/
def fnExactMinDegreeOrderSpec : ChangeSpec := { name := "fnExactMinDegreeOrder", fn := fun _ => fun
  | [d] => { results := [.lit (.bool true)], args := [d] }
  | _ => none }
def fnExactMinDegreeOrderRow : OpenClaim := { program := "ytcgnehacihjnkaa", sum := "d397fe6d7f46957590d5b7fd158bdbb4e76bc959016e062fca24fd8d3954054d", func := "loop.example/g03211/laws.FnExactMinDegreeOrder", spec := "fnExactMinDegreeOrder", apart := false }
def FnExactMinDegreeOrderSaid : Prop := fnExactMinDegreeOrderRow.holds Try.pinned (OpenSpec.ofChange fnExactMinDegreeOrderSpec)

/-- ITS FALSE NEIGHBOUR: 'it returns false'. Refute it at one input. -/
def fnExactMinDegreeOrderWrong : ChangeSpec := { name := "fnExactMinDegreeOrder", fn := fun _ => fun
  | [d] => { results := [.lit (.bool false)], args := [d] }
  | _ => none }
def FnExactMinDegreeOrderWrongFalsely : Prop := fnExactMinDegreeOrderRow.holds Try.pinned (OpenSpec.ofChange fnExactMinDegreeOrderWrong)

/-- 'laws.FnExactEliminationWidths': WHATEVER THE INPUT: true; the input reads as it did. -/
def fnExactEliminationWidthsSpec : ChangeSpec := { name := "fnExactEliminationWidths", fn := fun _ => fun
  | [d1, d2] => { results := [.lit (.bool true)], args := [d1, d2] }
  | _ => none }
def fnExactEliminationWidthsRow : OpenClaim := { program := "ytcgnehacihjnkaa", sum := "d397fe6d7f46957590d5b7fd158bdbb4e76bc959016e062fca24fd8d3954054d", func := "loop.example/g03211/laws.FnExactEliminationWidths", spec := "fnExactEliminationWidths", apart := false }
def FnExactEliminationWidthsSaid : Prop := fnExactEliminationWidthsRow.holds Try.pinned (OpenSpec.ofChange fnExactEliminationWidthsSpec)

/-- ITS FALSE NEIGHBOUR: 'it returns false'. Refute it at one input. -/
def fnExactEliminationWidthsWrong : ChangeSpec := { name := "fnExactEliminationWidths", fn := fun _ => fun
  | [d1, d2] => { results := [.lit (.bool false)], args := [d1, d2] }
  | _ => none }
def FnExactEliminationWidthsWrongFalsely : Prop := fnExactEliminationWidthsRow.holds Try.pinned (OpenSpec.ofChange fnExactEliminationWidthsWrong)

/-- 'laws.FnExactSortOrder': WHATEVER THE INPUT: true; the input reads as it did. -/
def fnExactSortOrderSpec : ChangeSpec := { name := "fnExactSortOrder", fn := fun _ => fun
  | [d1, d2] => { results := [.lit (.bool true)], args := [d1, d2] }
  | _ => none }
def fnExactSortOrderRow : OpenClaim := { program := "ytcgnehacihjnkaa", sum := "d397fe6d7f46957590d5b7fd158bdbb4e76bc959016e062fca24fd8d3954054d", func := "loop.example/g03211/laws.FnExactSortOrder", spec := "fnExactSortOrder", recurses := true, apart := false }
def FnExactSortOrderSaid : Prop := fnExactSortOrderRow.holds Try.pinned (OpenSpec.ofChange fnExactSortOrderSpec)

/-- ITS FALSE NEIGHBOUR: 'it returns false'. Refute it at one input. -/
def fnExactSortOrderWrong : ChangeSpec := { name := "fnExactSortOrder", fn := fun _ => fun
  | [d1, d2] => { results := [.lit (.bool false)], args := [d1, d2] }
  | _ => none }
def FnExactSortOrderWrongFalsely : Prop := fnExactSortOrderRow.holds Try.pinned (OpenSpec.ofChange fnExactSortOrderWrong)

/-- 'laws.FnExactRandomOrder': WHATEVER THE INPUT: true; the input reads as it did. -/
def fnExactRandomOrderSpec : ChangeSpec := { name := "fnExactRandomOrder", fn := fun _ => fun
  | [d1, d2] => { results := [.lit (.bool true)], args := [d1, d2] }
  | _ => none }
def fnExactRandomOrderRow : OpenClaim := { program := "ytcgnehacihjnkaa", sum := "d397fe6d7f46957590d5b7fd158bdbb4e76bc959016e062fca24fd8d3954054d", func := "loop.example/g03211/laws.FnExactRandomOrder", spec := "fnExactRandomOrder", apart := false }
def FnExactRandomOrderSaid : Prop := fnExactRandomOrderRow.holds Try.pinned (OpenSpec.ofChange fnExactRandomOrderSpec)

/-- ITS FALSE NEIGHBOUR: 'it returns false'. Refute it at one input. -/
def fnExactRandomOrderWrong : ChangeSpec := { name := "fnExactRandomOrder", fn := fun _ => fun
  | [d1, d2] => { results := [.lit (.bool false)], args := [d1, d2] }
  | _ => none }
def FnExactRandomOrderWrongFalsely : Prop := fnExactRandomOrderRow.holds Try.pinned (OpenSpec.ofChange fnExactRandomOrderWrong)

/-- 'laws.FnExactContractPair': WHATEVER THE INPUT: true; the input reads as it did. -/
def fnExactContractPairSpec : ChangeSpec := { name := "fnExactContractPair", fn := fun _ => fun
  | [d1, d2, d3, d4] => { results := [.lit (.bool true)], args := [d1, d2, d3, d4] }
  | _ => none }
def fnExactContractPairRow : OpenClaim := { program := "ytcgnehacihjnkaa", sum := "d397fe6d7f46957590d5b7fd158bdbb4e76bc959016e062fca24fd8d3954054d", func := "loop.example/g03211/laws.FnExactContractPair", spec := "fnExactContractPair", apart := false }
def FnExactContractPairSaid : Prop := fnExactContractPairRow.holds Try.pinned (OpenSpec.ofChange fnExactContractPairSpec)

/-- ITS FALSE NEIGHBOUR: 'it returns false'. Refute it at one input. -/
def fnExactContractPairWrong : ChangeSpec := { name := "fnExactContractPair", fn := fun _ => fun
  | [d1, d2, d3, d4] => { results := [.lit (.bool false)], args := [d1, d2, d3, d4] }
  | _ => none }
def FnExactContractPairWrongFalsely : Prop := fnExactContractPairRow.holds Try.pinned (OpenSpec.ofChange fnExactContractPairWrong)

/- THE SECOND FORM. 'bulk': how many values and letters a reading holds, each counted each time it is reached (what is shared counts as often as it is met; a slice's spare places count too). A statement '..UptoSaid' is the law's where the arguments, and the package variables that the reading takes, are together of bulk at most 1048576: NARROWER than '..Said'. Prove '..Said' where nothing that the law and all that it calls make is longer than what came in: it says more and counts as full. Else prove '..UptoSaid'. A law counts once. -/
mutual
def uptoBulk {H : Type} : DataW H → Nat
  | .lit (.string bytes) => bytes.length + 1
  | .lit _ => 1
  | .nil => 1
  | .ptr d => uptoBulk d + 1
  | .slice elems spare => uptoBulkAll elems + uptoBulkAll spare + 1
  | .agg parts => uptoBulkAll parts + 1
  | .iface _ d => uptoBulk d + 1
  | .map entries => uptoBulkEntries entries + 1
  | .held _ => 1
def uptoBulkAll {H : Type} : List (DataW H) → Nat
  | [] => 0
  | d :: r => uptoBulk d + uptoBulkAll r
def uptoBulkEntries {H : Type} : List (Lit × DataW H) → Nat
  | [] => 0
  | x :: r => uptoBulkEntry x + uptoBulkEntries r
def uptoBulkEntry {H : Type} : Lit × DataW H → Nat
  | (.string bytes, d) => bytes.length + uptoBulk d + 1
  | (_, d) => uptoBulk d + 1
 end
def uptoSmall : (H : Type) → List (DataW H) → Bool := fun _ ds => decide (uptoBulkAll ds ≤ 1048576)
def OpenSpec.upto (s : _root_.Go.ChangeSpec) : _root_.Go.OpenSpec := { _root_.Go.OpenSpec.ofChange s with cond := some uptoSmall }

/-- 'laws.FnExactSubNetwork', WHERE WHAT IT READS IS OF BULK AT MOST 1048576: true; the input reads as it did. -/
def fnExactSubNetworkUptoRow : OpenClaim := { program := "ytcgnehacihjnkaa", sum := "d397fe6d7f46957590d5b7fd158bdbb4e76bc959016e062fca24fd8d3954054d", func := "loop.example/g03211/laws.FnExactSubNetwork", spec := "fnExactSubNetwork", apart := false, narrowed := true }
def FnExactSubNetworkUptoSaid : Prop := fnExactSubNetworkUptoRow.holds Try.pinned (OpenSpec.upto fnExactSubNetworkSpec)

/-- 'laws.FnExactBestCost', WHERE WHAT IT READS IS OF BULK AT MOST 1048576: true; the input reads as it did. -/
def fnExactBestCostUptoRow : OpenClaim := { program := "ytcgnehacihjnkaa", sum := "d397fe6d7f46957590d5b7fd158bdbb4e76bc959016e062fca24fd8d3954054d", func := "loop.example/g03211/laws.FnExactBestCost", spec := "fnExactBestCost", apart := false, narrowed := true }
def FnExactBestCostUptoSaid : Prop := fnExactBestCostUptoRow.holds Try.pinned (OpenSpec.upto fnExactBestCostSpec)

/-- 'laws.FnExactRelabelNetwork', WHERE WHAT IT READS IS OF BULK AT MOST 1048576: true; the input reads as it did. -/
def fnExactRelabelNetworkUptoRow : OpenClaim := { program := "ytcgnehacihjnkaa", sum := "d397fe6d7f46957590d5b7fd158bdbb4e76bc959016e062fca24fd8d3954054d", func := "loop.example/g03211/laws.FnExactRelabelNetwork", spec := "fnExactRelabelNetwork", apart := false, narrowed := true }
def FnExactRelabelNetworkUptoSaid : Prop := fnExactRelabelNetworkUptoRow.holds Try.pinned (OpenSpec.upto fnExactRelabelNetworkSpec)

/-- 'laws.FnExactMultiplyTensors', WHERE WHAT IT READS IS OF BULK AT MOST 1048576: true; the input reads as it did. -/
def fnExactMultiplyTensorsUptoRow : OpenClaim := { program := "ytcgnehacihjnkaa", sum := "d397fe6d7f46957590d5b7fd158bdbb4e76bc959016e062fca24fd8d3954054d", func := "loop.example/g03211/laws.FnExactMultiplyTensors", spec := "fnExactMultiplyTensors", apart := false, narrowed := true }
def FnExactMultiplyTensorsUptoSaid : Prop := fnExactMultiplyTensorsUptoRow.holds Try.pinned (OpenSpec.upto fnExactMultiplyTensorsSpec)

/-- 'laws.FnExactBestWidth', WHERE WHAT IT READS IS OF BULK AT MOST 1048576: true; the input reads as it did. -/
def fnExactBestWidthUptoRow : OpenClaim := { program := "ytcgnehacihjnkaa", sum := "d397fe6d7f46957590d5b7fd158bdbb4e76bc959016e062fca24fd8d3954054d", func := "loop.example/g03211/laws.FnExactBestWidth", spec := "fnExactBestWidth", apart := false, narrowed := true }
def FnExactBestWidthUptoSaid : Prop := fnExactBestWidthUptoRow.holds Try.pinned (OpenSpec.upto fnExactBestWidthSpec)

/-- 'laws.FnExactDecompositionOk', WHERE WHAT IT READS IS OF BULK AT MOST 1048576: true; the input reads as it did. -/
def fnExactDecompositionOkUptoRow : OpenClaim := { program := "ytcgnehacihjnkaa", sum := "d397fe6d7f46957590d5b7fd158bdbb4e76bc959016e062fca24fd8d3954054d", func := "loop.example/g03211/laws.FnExactDecompositionOk", spec := "fnExactDecompositionOk", apart := false, narrowed := true }
def FnExactDecompositionOkUptoSaid : Prop := fnExactDecompositionOkUptoRow.holds Try.pinned (OpenSpec.upto fnExactDecompositionOkSpec)

/-- 'laws.FnExactMinDegreeOrder', WHERE WHAT IT READS IS OF BULK AT MOST 1048576: true; the input reads as it did. -/
def fnExactMinDegreeOrderUptoRow : OpenClaim := { program := "ytcgnehacihjnkaa", sum := "d397fe6d7f46957590d5b7fd158bdbb4e76bc959016e062fca24fd8d3954054d", func := "loop.example/g03211/laws.FnExactMinDegreeOrder", spec := "fnExactMinDegreeOrder", apart := false, narrowed := true }
def FnExactMinDegreeOrderUptoSaid : Prop := fnExactMinDegreeOrderUptoRow.holds Try.pinned (OpenSpec.upto fnExactMinDegreeOrderSpec)

/-- 'laws.FnExactEliminationWidths', WHERE WHAT IT READS IS OF BULK AT MOST 1048576: true; the input reads as it did. -/
def fnExactEliminationWidthsUptoRow : OpenClaim := { program := "ytcgnehacihjnkaa", sum := "d397fe6d7f46957590d5b7fd158bdbb4e76bc959016e062fca24fd8d3954054d", func := "loop.example/g03211/laws.FnExactEliminationWidths", spec := "fnExactEliminationWidths", apart := false, narrowed := true }
def FnExactEliminationWidthsUptoSaid : Prop := fnExactEliminationWidthsUptoRow.holds Try.pinned (OpenSpec.upto fnExactEliminationWidthsSpec)

/-- 'laws.FnExactSortOrder', WHERE WHAT IT READS IS OF BULK AT MOST 1048576: true; the input reads as it did. -/
def fnExactSortOrderUptoRow : OpenClaim := { program := "ytcgnehacihjnkaa", sum := "d397fe6d7f46957590d5b7fd158bdbb4e76bc959016e062fca24fd8d3954054d", func := "loop.example/g03211/laws.FnExactSortOrder", spec := "fnExactSortOrder", recurses := true, apart := false, narrowed := true }
def FnExactSortOrderUptoSaid : Prop := fnExactSortOrderUptoRow.holds Try.pinned (OpenSpec.upto fnExactSortOrderSpec)

/-- 'laws.FnExactRandomOrder', WHERE WHAT IT READS IS OF BULK AT MOST 1048576: true; the input reads as it did. -/
def fnExactRandomOrderUptoRow : OpenClaim := { program := "ytcgnehacihjnkaa", sum := "d397fe6d7f46957590d5b7fd158bdbb4e76bc959016e062fca24fd8d3954054d", func := "loop.example/g03211/laws.FnExactRandomOrder", spec := "fnExactRandomOrder", apart := false, narrowed := true }
def FnExactRandomOrderUptoSaid : Prop := fnExactRandomOrderUptoRow.holds Try.pinned (OpenSpec.upto fnExactRandomOrderSpec)

/-- 'laws.FnExactContractPair', WHERE WHAT IT READS IS OF BULK AT MOST 1048576: true; the input reads as it did. -/
def fnExactContractPairUptoRow : OpenClaim := { program := "ytcgnehacihjnkaa", sum := "d397fe6d7f46957590d5b7fd158bdbb4e76bc959016e062fca24fd8d3954054d", func := "loop.example/g03211/laws.FnExactContractPair", spec := "fnExactContractPair", apart := false, narrowed := true }
def FnExactContractPairUptoSaid : Prop := fnExactContractPairUptoRow.holds Try.pinned (OpenSpec.upto fnExactContractPairSpec)

end Rows
end Go.Proofs.Ytcgnehacihjnkaa
