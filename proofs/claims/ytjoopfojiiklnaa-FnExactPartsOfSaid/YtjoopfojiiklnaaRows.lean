/-
  No cell of these rows narrows 'for every input' (looked for: loops, veiled, ifaces, maps, wideKeys, modest, calm, conditions, laid).
  DERIVED. THE GIVEN ROWS OF THIS SEAT. 12 by the template 'for every input the law returns true; each argument reads behind the call as it read before'; 0 by the template 'total and deterministic' (their statements: YtjoopfojiiklnaaTotals.lean).
  GIVEN WITH THE SEED: the statements are not yours to turn. If you find one false, say at which input.
  Laid BY PROGRAM, IN A SANDBOX (cutbox-rows.mjs): the forced cells as the released guide's own fill.sh prints them over the translation e3b7528d2078e131… (all of the seat's roots in one cut). By AI agents, Wed Nov 11 2026. No macro, syntax, notation, axiom, sorry.
-/
import Derived.Test.YtjoopfojiiklnaaChecked
import GoSem.Claim
import GoSem.ClaimJoined
import GoSem.ClaimMapViews
import Derived.JoinedTies
import Derived.KernelRfl
namespace Go.Proofs.Ytjoopfojiiklnaa
/- THE CELL 'sum', in the pinned program and in every row, IS THE sha256 OF THE DUMP (.gsa) THAT YtjoopfojiiklnaaProg.lean LOADS. Nothing in Lean hashes anything: it is a label: what it is worth is what the hold of that sum in a sandbox is worth. -/
noncomputable def Try.pinned : Pinned := { name := "ytjoopfojiiklnaa", sum := "e3b7528d2078e13136b330a7d783b46851f3be1a753657ec7cd54a9efaa2f1e9", checked := Try.checked }
namespace Rows
def none {H : Type} : Left H := { results := [], args := [] }

/-- 'laws.FnExactIsForest': WHATEVER THE INPUT: true; the input reads as it did. -/
def fnExactIsForestSpec : ChangeSpec := { name := "fnExactIsForest", fn := fun _ => fun
  | [d] => { results := [.lit (.bool true)], args := [d] }
  | _ => none }
def fnExactIsForestRow : OpenClaim := { program := "ytjoopfojiiklnaa", sum := "e3b7528d2078e13136b330a7d783b46851f3be1a753657ec7cd54a9efaa2f1e9", func := "loop.example/g03211/laws.FnExactIsForest", spec := "fnExactIsForest", apart := false }
def FnExactIsForestSaid : Prop := fnExactIsForestRow.holds Try.pinned (OpenSpec.ofChange fnExactIsForestSpec)

/-- ITS FALSE NEIGHBOUR: 'it returns false'. Refute it at one input. -/
def fnExactIsForestWrong : ChangeSpec := { name := "fnExactIsForest", fn := fun _ => fun
  | [d] => { results := [.lit (.bool false)], args := [d] }
  | _ => none }
def FnExactIsForestWrongFalsely : Prop := fnExactIsForestRow.holds Try.pinned (OpenSpec.ofChange fnExactIsForestWrong)

/-- 'laws.FnExactSetLabels': WHATEVER THE INPUT: true; the input reads as it did. -/
def fnExactSetLabelsSpec : ChangeSpec := { name := "fnExactSetLabels", fn := fun _ => fun
  | [d1, d2] => { results := [.lit (.bool true)], args := [d1, d2] }
  | _ => none }
def fnExactSetLabelsRow : OpenClaim := { program := "ytjoopfojiiklnaa", sum := "e3b7528d2078e13136b330a7d783b46851f3be1a753657ec7cd54a9efaa2f1e9", func := "loop.example/g03211/laws.FnExactSetLabels", spec := "fnExactSetLabels", apart := false }
def FnExactSetLabelsSaid : Prop := fnExactSetLabelsRow.holds Try.pinned (OpenSpec.ofChange fnExactSetLabelsSpec)

/-- ITS FALSE NEIGHBOUR: 'it returns false'. Refute it at one input. -/
def fnExactSetLabelsWrong : ChangeSpec := { name := "fnExactSetLabels", fn := fun _ => fun
  | [d1, d2] => { results := [.lit (.bool false)], args := [d1, d2] }
  | _ => none }
def FnExactSetLabelsWrongFalsely : Prop := fnExactSetLabelsRow.holds Try.pinned (OpenSpec.ofChange fnExactSetLabelsWrong)

/-- 'laws.FnExactPlainOrder': WHATEVER THE INPUT: true; the input reads as it did. -/
def fnExactPlainOrderSpec : ChangeSpec := { name := "fnExactPlainOrder", fn := fun _ => fun
  | [d] => { results := [.lit (.bool true)], args := [d] }
  | _ => none }
def fnExactPlainOrderRow : OpenClaim := { program := "ytjoopfojiiklnaa", sum := "e3b7528d2078e13136b330a7d783b46851f3be1a753657ec7cd54a9efaa2f1e9", func := "loop.example/g03211/laws.FnExactPlainOrder", spec := "fnExactPlainOrder", apart := false }
def FnExactPlainOrderSaid : Prop := fnExactPlainOrderRow.holds Try.pinned (OpenSpec.ofChange fnExactPlainOrderSpec)

/-- ITS FALSE NEIGHBOUR: 'it returns false'. Refute it at one input. -/
def fnExactPlainOrderWrong : ChangeSpec := { name := "fnExactPlainOrder", fn := fun _ => fun
  | [d] => { results := [.lit (.bool false)], args := [d] }
  | _ => none }
def FnExactPlainOrderWrongFalsely : Prop := fnExactPlainOrderRow.holds Try.pinned (OpenSpec.ofChange fnExactPlainOrderWrong)

/-- 'laws.FnExactOpenNetwork': WHATEVER THE INPUT: true; the input reads as it did. -/
def fnExactOpenNetworkSpec : ChangeSpec := { name := "fnExactOpenNetwork", fn := fun _ => fun
  | [d1, d2] => { results := [.lit (.bool true)], args := [d1, d2] }
  | _ => none }
def fnExactOpenNetworkRow : OpenClaim := { program := "ytjoopfojiiklnaa", sum := "e3b7528d2078e13136b330a7d783b46851f3be1a753657ec7cd54a9efaa2f1e9", func := "loop.example/g03211/laws.FnExactOpenNetwork", spec := "fnExactOpenNetwork", apart := false }
def FnExactOpenNetworkSaid : Prop := fnExactOpenNetworkRow.holds Try.pinned (OpenSpec.ofChange fnExactOpenNetworkSpec)

/-- ITS FALSE NEIGHBOUR: 'it returns false'. Refute it at one input. -/
def fnExactOpenNetworkWrong : ChangeSpec := { name := "fnExactOpenNetwork", fn := fun _ => fun
  | [d1, d2] => { results := [.lit (.bool false)], args := [d1, d2] }
  | _ => none }
def FnExactOpenNetworkWrongFalsely : Prop := fnExactOpenNetworkRow.holds Try.pinned (OpenSpec.ofChange fnExactOpenNetworkWrong)

/-- 'laws.FnExactDropUnits': WHATEVER THE INPUT: true; the input reads as it did. -/
def fnExactDropUnitsSpec : ChangeSpec := { name := "fnExactDropUnits", fn := fun _ => fun
  | [d] => { results := [.lit (.bool true)], args := [d] }
  | _ => none }
def fnExactDropUnitsRow : OpenClaim := { program := "ytjoopfojiiklnaa", sum := "e3b7528d2078e13136b330a7d783b46851f3be1a753657ec7cd54a9efaa2f1e9", func := "loop.example/g03211/laws.FnExactDropUnits", spec := "fnExactDropUnits", apart := false }
def FnExactDropUnitsSaid : Prop := fnExactDropUnitsRow.holds Try.pinned (OpenSpec.ofChange fnExactDropUnitsSpec)

/-- ITS FALSE NEIGHBOUR: 'it returns false'. Refute it at one input. -/
def fnExactDropUnitsWrong : ChangeSpec := { name := "fnExactDropUnits", fn := fun _ => fun
  | [d] => { results := [.lit (.bool false)], args := [d] }
  | _ => none }
def FnExactDropUnitsWrongFalsely : Prop := fnExactDropUnitsRow.holds Try.pinned (OpenSpec.ofChange fnExactDropUnitsWrong)

/-- 'laws.FnExactScaleNetwork': WHATEVER THE INPUT: true; the input reads as it did. -/
def fnExactScaleNetworkSpec : ChangeSpec := { name := "fnExactScaleNetwork", fn := fun _ => fun
  | [d1, d2] => { results := [.lit (.bool true)], args := [d1, d2] }
  | _ => none }
def fnExactScaleNetworkRow : OpenClaim := { program := "ytjoopfojiiklnaa", sum := "e3b7528d2078e13136b330a7d783b46851f3be1a753657ec7cd54a9efaa2f1e9", func := "loop.example/g03211/laws.FnExactScaleNetwork", spec := "fnExactScaleNetwork", apart := false }
def FnExactScaleNetworkSaid : Prop := fnExactScaleNetworkRow.holds Try.pinned (OpenSpec.ofChange fnExactScaleNetworkSpec)

/-- ITS FALSE NEIGHBOUR: 'it returns false'. Refute it at one input. -/
def fnExactScaleNetworkWrong : ChangeSpec := { name := "fnExactScaleNetwork", fn := fun _ => fun
  | [d1, d2] => { results := [.lit (.bool false)], args := [d1, d2] }
  | _ => none }
def FnExactScaleNetworkWrongFalsely : Prop := fnExactScaleNetworkRow.holds Try.pinned (OpenSpec.ofChange fnExactScaleNetworkWrong)

/-- 'laws.FnExactOrderOk': WHATEVER THE INPUT: true; the input reads as it did. -/
def fnExactOrderOkSpec : ChangeSpec := { name := "fnExactOrderOk", fn := fun _ => fun
  | [d1, d2] => { results := [.lit (.bool true)], args := [d1, d2] }
  | _ => none }
def fnExactOrderOkRow : OpenClaim := { program := "ytjoopfojiiklnaa", sum := "e3b7528d2078e13136b330a7d783b46851f3be1a753657ec7cd54a9efaa2f1e9", func := "loop.example/g03211/laws.FnExactOrderOk", spec := "fnExactOrderOk", apart := false }
def FnExactOrderOkSaid : Prop := fnExactOrderOkRow.holds Try.pinned (OpenSpec.ofChange fnExactOrderOkSpec)

/-- ITS FALSE NEIGHBOUR: 'it returns false'. Refute it at one input. -/
def fnExactOrderOkWrong : ChangeSpec := { name := "fnExactOrderOk", fn := fun _ => fun
  | [d1, d2] => { results := [.lit (.bool false)], args := [d1, d2] }
  | _ => none }
def FnExactOrderOkWrongFalsely : Prop := fnExactOrderOkRow.holds Try.pinned (OpenSpec.ofChange fnExactOrderOkWrong)

/-- 'laws.FnExactMapTensor': WHATEVER THE INPUT: true; the input reads as it did. -/
def fnExactMapTensorSpec : ChangeSpec := { name := "fnExactMapTensor", fn := fun _ => fun
  | [d1, d2, d3, d4] => { results := [.lit (.bool true)], args := [d1, d2, d3, d4] }
  | _ => none }
def fnExactMapTensorRow : OpenClaim := { program := "ytjoopfojiiklnaa", sum := "e3b7528d2078e13136b330a7d783b46851f3be1a753657ec7cd54a9efaa2f1e9", func := "loop.example/g03211/laws.FnExactMapTensor", spec := "fnExactMapTensor", apart := false }
def FnExactMapTensorSaid : Prop := fnExactMapTensorRow.holds Try.pinned (OpenSpec.ofChange fnExactMapTensorSpec)

/-- ITS FALSE NEIGHBOUR: 'it returns false'. Refute it at one input. -/
def fnExactMapTensorWrong : ChangeSpec := { name := "fnExactMapTensor", fn := fun _ => fun
  | [d1, d2, d3, d4] => { results := [.lit (.bool false)], args := [d1, d2, d3, d4] }
  | _ => none }
def FnExactMapTensorWrongFalsely : Prop := fnExactMapTensorRow.holds Try.pinned (OpenSpec.ofChange fnExactMapTensorWrong)

/-- 'laws.FnExactStackTensors': WHATEVER THE INPUT: true; the input reads as it did. -/
def fnExactStackTensorsSpec : ChangeSpec := { name := "fnExactStackTensors", fn := fun _ => fun
  | [d1, d2, d3] => { results := [.lit (.bool true)], args := [d1, d2, d3] }
  | _ => none }
def fnExactStackTensorsRow : OpenClaim := { program := "ytjoopfojiiklnaa", sum := "e3b7528d2078e13136b330a7d783b46851f3be1a753657ec7cd54a9efaa2f1e9", func := "loop.example/g03211/laws.FnExactStackTensors", spec := "fnExactStackTensors", apart := false }
def FnExactStackTensorsSaid : Prop := fnExactStackTensorsRow.holds Try.pinned (OpenSpec.ofChange fnExactStackTensorsSpec)

/-- ITS FALSE NEIGHBOUR: 'it returns false'. Refute it at one input. -/
def fnExactStackTensorsWrong : ChangeSpec := { name := "fnExactStackTensors", fn := fun _ => fun
  | [d1, d2, d3] => { results := [.lit (.bool false)], args := [d1, d2, d3] }
  | _ => none }
def FnExactStackTensorsWrongFalsely : Prop := fnExactStackTensorsRow.holds Try.pinned (OpenSpec.ofChange fnExactStackTensorsWrong)

/-- 'laws.FnExactPartsOf': WHATEVER THE INPUT: true; the input reads as it did. -/
def fnExactPartsOfSpec : ChangeSpec := { name := "fnExactPartsOf", fn := fun _ => fun
  | [d] => { results := [.lit (.bool true)], args := [d] }
  | _ => none }
def fnExactPartsOfRow : OpenClaim := { program := "ytjoopfojiiklnaa", sum := "e3b7528d2078e13136b330a7d783b46851f3be1a753657ec7cd54a9efaa2f1e9", func := "loop.example/g03211/laws.FnExactPartsOf", spec := "fnExactPartsOf", apart := false }
def FnExactPartsOfSaid : Prop := fnExactPartsOfRow.holds Try.pinned (OpenSpec.ofChange fnExactPartsOfSpec)

/-- ITS FALSE NEIGHBOUR: 'it returns false'. Refute it at one input. -/
def fnExactPartsOfWrong : ChangeSpec := { name := "fnExactPartsOf", fn := fun _ => fun
  | [d] => { results := [.lit (.bool false)], args := [d] }
  | _ => none }
def FnExactPartsOfWrongFalsely : Prop := fnExactPartsOfRow.holds Try.pinned (OpenSpec.ofChange fnExactPartsOfWrong)

/-- 'laws.FnExactJoinNetworks': WHATEVER THE INPUT: true; the input reads as it did. -/
def fnExactJoinNetworksSpec : ChangeSpec := { name := "fnExactJoinNetworks", fn := fun _ => fun
  | [d1, d2, d3] => { results := [.lit (.bool true)], args := [d1, d2, d3] }
  | _ => none }
def fnExactJoinNetworksRow : OpenClaim := { program := "ytjoopfojiiklnaa", sum := "e3b7528d2078e13136b330a7d783b46851f3be1a753657ec7cd54a9efaa2f1e9", func := "loop.example/g03211/laws.FnExactJoinNetworks", spec := "fnExactJoinNetworks", apart := false }
def FnExactJoinNetworksSaid : Prop := fnExactJoinNetworksRow.holds Try.pinned (OpenSpec.ofChange fnExactJoinNetworksSpec)

/-- ITS FALSE NEIGHBOUR: 'it returns false'. Refute it at one input. -/
def fnExactJoinNetworksWrong : ChangeSpec := { name := "fnExactJoinNetworks", fn := fun _ => fun
  | [d1, d2, d3] => { results := [.lit (.bool false)], args := [d1, d2, d3] }
  | _ => none }
def FnExactJoinNetworksWrongFalsely : Prop := fnExactJoinNetworksRow.holds Try.pinned (OpenSpec.ofChange fnExactJoinNetworksWrong)

/-- 'laws.FnExactAddTensors': WHATEVER THE INPUT: true; the input reads as it did. -/
def fnExactAddTensorsSpec : ChangeSpec := { name := "fnExactAddTensors", fn := fun _ => fun
  | [d1, d2, d3] => { results := [.lit (.bool true)], args := [d1, d2, d3] }
  | _ => none }
def fnExactAddTensorsRow : OpenClaim := { program := "ytjoopfojiiklnaa", sum := "e3b7528d2078e13136b330a7d783b46851f3be1a753657ec7cd54a9efaa2f1e9", func := "loop.example/g03211/laws.FnExactAddTensors", spec := "fnExactAddTensors", apart := false }
def FnExactAddTensorsSaid : Prop := fnExactAddTensorsRow.holds Try.pinned (OpenSpec.ofChange fnExactAddTensorsSpec)

/-- ITS FALSE NEIGHBOUR: 'it returns false'. Refute it at one input. -/
def fnExactAddTensorsWrong : ChangeSpec := { name := "fnExactAddTensors", fn := fun _ => fun
  | [d1, d2, d3] => { results := [.lit (.bool false)], args := [d1, d2, d3] }
  | _ => none }
def FnExactAddTensorsWrongFalsely : Prop := fnExactAddTensorsRow.holds Try.pinned (OpenSpec.ofChange fnExactAddTensorsWrong)

/- THE SECOND FORM. 'bulk': how many values and letters a reading holds, each counted each time it is reached (what is shared counts as often as it is met; a slice's spare places count too). A statement '..UptoSaid' is the law's where the arguments, and the package variables that the reading takes, are together of bulk at most 1048576: NARROWER than '..Said'. Prove '..Said' where nothing that the law and all that it calls make is longer than what came in: it says more and counts as full. Else prove '..UptoSaid'. A law counts once. -/
mutual
def uptoBulk {H : Type} : DataW H → Nat
  | .lit (.string bytes) => bytes.length + 1
  | .lit _ => 1
  | .nil => 1
  | .ptr d => uptoBulk d + 1
  | .slice elems spare => uptoBulkAll elems + uptoBulkAll spare + 1
  | .agg parts => uptoBulkAll parts + 1
  | .iface _ d => uptoBulk d + 1
  | .map entries => uptoBulkEntries entries + 1
  | .held _ => 1
def uptoBulkAll {H : Type} : List (DataW H) → Nat
  | [] => 0
  | d :: r => uptoBulk d + uptoBulkAll r
def uptoBulkEntries {H : Type} : List (Lit × DataW H) → Nat
  | [] => 0
  | x :: r => uptoBulkEntry x + uptoBulkEntries r
def uptoBulkEntry {H : Type} : Lit × DataW H → Nat
  | (.string bytes, d) => bytes.length + uptoBulk d + 1
  | (_, d) => uptoBulk d + 1
 end
def uptoSmall : (H : Type) → List (DataW H) → Bool := fun _ ds => decide (uptoBulkAll ds ≤ 1048576)
def OpenSpec.upto (s : _root_.Go.ChangeSpec) : _root_.Go.OpenSpec := { _root_.Go.OpenSpec.ofChange s with cond := some uptoSmall }

/-- 'laws.FnExactIsForest', WHERE WHAT IT READS IS OF BULK AT MOST 1048576: true; the input reads as it did. -/
def fnExactIsForestUptoRow : OpenClaim := { program := "ytjoopfojiiklnaa", sum := "e3b7528d2078e13136b330a7d783b46851f3be1a753657ec7cd54a9efaa2f1e9", func := "loop.example/g03211/laws.FnExactIsForest", spec := "fnExactIsForest", apart := false, narrowed := true }
def FnExactIsForestUptoSaid : Prop := fnExactIsForestUptoRow.holds Try.pinned (OpenSpec.upto fnExactIsForestSpec)

/-- 'laws.FnExactSetLabels', WHERE WHAT IT READS IS OF BULK AT MOST 1048576: true; the input reads as it did. -/
def fnExactSetLabelsUptoRow : OpenClaim := { program := "ytjoopfojiiklnaa", sum := "e3b7528d2078e13136b330a7d783b46851f3be1a753657ec7cd54a9efaa2f1e9", func := "loop.example/g03211/laws.FnExactSetLabels", spec := "fnExactSetLabels", apart := false, narrowed := true }
def FnExactSetLabelsUptoSaid : Prop := fnExactSetLabelsUptoRow.holds Try.pinned (OpenSpec.upto fnExactSetLabelsSpec)

/-- 'laws.FnExactPlainOrder', WHERE WHAT IT READS IS OF BULK AT MOST 1048576: true; the input reads as it did. -/
def fnExactPlainOrderUptoRow : OpenClaim := { program := "ytjoopfojiiklnaa", sum := "e3b7528d2078e13136b330a7d783b46851f3be1a753657ec7cd54a9efaa2f1e9", func := "loop.example/g03211/laws.FnExactPlainOrder", spec := "fnExactPlainOrder", apart := false, narrowed := true }
def FnExactPlainOrderUptoSaid : Prop := fnExactPlainOrderUptoRow.holds Try.pinned (OpenSpec.upto fnExactPlainOrderSpec)

/-- 'laws.FnExactOpenNetwork', WHERE WHAT IT READS IS OF BULK AT MOST 1048576: true; the input reads as it did. -/
def fnExactOpenNetworkUptoRow : OpenClaim := { program := "ytjoopfojiiklnaa", sum := "e3b7528d2078e13136b330a7d783b46851f3be1a753657ec7cd54a9efaa2f1e9", func := "loop.example/g03211/laws.FnExactOpenNetwork", spec := "fnExactOpenNetwork", apart := false, narrowed := true }
def FnExactOpenNetworkUptoSaid : Prop := fnExactOpenNetworkUptoRow.holds Try.pinned (OpenSpec.upto fnExactOpenNetworkSpec)

/-- 'laws.FnExactDropUnits', WHERE WHAT IT READS IS OF BULK AT MOST 1048576: true; the input reads as it did. -/
def fnExactDropUnitsUptoRow : OpenClaim := { program := "ytjoopfojiiklnaa", sum := "e3b7528d2078e13136b330a7d783b46851f3be1a753657ec7cd54a9efaa2f1e9", func := "loop.example/g03211/laws.FnExactDropUnits", spec := "fnExactDropUnits", apart := false, narrowed := true }
def FnExactDropUnitsUptoSaid : Prop := fnExactDropUnitsUptoRow.holds Try.pinned (OpenSpec.upto fnExactDropUnitsSpec)

/-- 'laws.FnExactScaleNetwork', WHERE WHAT IT READS IS OF BULK AT MOST 1048576: true; the input reads as it did. -/
def fnExactScaleNetworkUptoRow : OpenClaim := { program := "ytjoopfojiiklnaa", sum := "e3b7528d2078e13136b330a7d783b46851f3be1a753657ec7cd54a9efaa2f1e9", func := "loop.example/g03211/laws.FnExactScaleNetwork", spec := "fnExactScaleNetwork", apart := false, narrowed := true }
def FnExactScaleNetworkUptoSaid : Prop := fnExactScaleNetworkUptoRow.holds Try.pinned (OpenSpec.upto fnExactScaleNetworkSpec)

/-- 'laws.FnExactOrderOk', WHERE WHAT IT READS IS OF BULK AT MOST 1048576: true; the input reads as it did. -/
def fnExactOrderOkUptoRow : OpenClaim := { program := "ytjoopfojiiklnaa", sum := "e3b7528d2078e13136b330a7d783b46851f3be1a753657ec7cd54a9efaa2f1e9", func := "loop.example/g03211/laws.FnExactOrderOk", spec := "fnExactOrderOk", apart := false, narrowed := true }
def FnExactOrderOkUptoSaid : Prop := fnExactOrderOkUptoRow.holds Try.pinned (OpenSpec.upto fnExactOrderOkSpec)

/-- 'laws.FnExactMapTensor', WHERE WHAT IT READS IS OF BULK AT MOST 1048576: true; the input reads as it did. -/
def fnExactMapTensorUptoRow : OpenClaim := { program := "ytjoopfojiiklnaa", sum := "e3b7528d2078e13136b330a7d783b46851f3be1a753657ec7cd54a9efaa2f1e9", func := "loop.example/g03211/laws.FnExactMapTensor", spec := "fnExactMapTensor", apart := false, narrowed := true }
def FnExactMapTensorUptoSaid : Prop := fnExactMapTensorUptoRow.holds Try.pinned (OpenSpec.upto fnExactMapTensorSpec)

/-- 'laws.FnExactStackTensors', WHERE WHAT IT READS IS OF BULK AT MOST 1048576: true; the input reads as it did. -/
def fnExactStackTensorsUptoRow : OpenClaim := { program := "ytjoopfojiiklnaa", sum := "e3b7528d2078e13136b330a7d783b46851f3be1a753657ec7cd54a9efaa2f1e9", func := "loop.example/g03211/laws.FnExactStackTensors", spec := "fnExactStackTensors", apart := false, narrowed := true }
def FnExactStackTensorsUptoSaid : Prop := fnExactStackTensorsUptoRow.holds Try.pinned (OpenSpec.upto fnExactStackTensorsSpec)

/-- 'laws.FnExactPartsOf', WHERE WHAT IT READS IS OF BULK AT MOST 1048576: true; the input reads as it did. -/
def fnExactPartsOfUptoRow : OpenClaim := { program := "ytjoopfojiiklnaa", sum := "e3b7528d2078e13136b330a7d783b46851f3be1a753657ec7cd54a9efaa2f1e9", func := "loop.example/g03211/laws.FnExactPartsOf", spec := "fnExactPartsOf", apart := false, narrowed := true }
def FnExactPartsOfUptoSaid : Prop := fnExactPartsOfUptoRow.holds Try.pinned (OpenSpec.upto fnExactPartsOfSpec)

/-- 'laws.FnExactJoinNetworks', WHERE WHAT IT READS IS OF BULK AT MOST 1048576: true; the input reads as it did. -/
def fnExactJoinNetworksUptoRow : OpenClaim := { program := "ytjoopfojiiklnaa", sum := "e3b7528d2078e13136b330a7d783b46851f3be1a753657ec7cd54a9efaa2f1e9", func := "loop.example/g03211/laws.FnExactJoinNetworks", spec := "fnExactJoinNetworks", apart := false, narrowed := true }
def FnExactJoinNetworksUptoSaid : Prop := fnExactJoinNetworksUptoRow.holds Try.pinned (OpenSpec.upto fnExactJoinNetworksSpec)

/-- 'laws.FnExactAddTensors', WHERE WHAT IT READS IS OF BULK AT MOST 1048576: true; the input reads as it did. -/
def fnExactAddTensorsUptoRow : OpenClaim := { program := "ytjoopfojiiklnaa", sum := "e3b7528d2078e13136b330a7d783b46851f3be1a753657ec7cd54a9efaa2f1e9", func := "loop.example/g03211/laws.FnExactAddTensors", spec := "fnExactAddTensors", apart := false, narrowed := true }
def FnExactAddTensorsUptoSaid : Prop := fnExactAddTensorsUptoRow.holds Try.pinned (OpenSpec.upto fnExactAddTensorsSpec)

end Rows
end Go.Proofs.Ytjoopfojiiklnaa
