/-
  No cell of these rows narrows 'for every input' (looked for: loops, veiled, ifaces, maps, wideKeys, modest, calm, conditions, laid).
  DERIVED. THE GIVEN ROWS OF THIS SEAT. 4 by the template 'for every input the law returns true; each argument reads behind the call as it read before'; 0 by the template 'total and deterministic' (their statements: YtebhkfhdjdgokaaTotals.lean).
  GIVEN WITH THE SEED: the statements are not yours to turn. If you find one false, say at which input.
  Laid BY PROGRAM, IN A SANDBOX (cutbox-rows.mjs): the forced cells as the released guide's own fill.sh prints them over the translation 7ce772ce6dd8fde4… (all of the seat's roots in one cut). By AI agents, Wed Nov 11 2026. No macro, syntax, notation, axiom, sorry.
-/
import Derived.Test.YtebhkfhdjdgokaaChecked
import GoSem.Claim
import GoSem.ClaimJoined
import GoSem.ClaimMapViews
import Derived.JoinedTies
import Derived.KernelRfl
namespace Go.Proofs.Ytebhkfhdjdgokaa
/- THE CELL 'sum', in the pinned program and in every row, IS THE sha256 OF THE DUMP (.gsa) THAT YtebhkfhdjdgokaaProg.lean LOADS. Nothing in Lean hashes anything: it is a label: what it is worth is what the hold of that sum in a sandbox is worth. -/
noncomputable def Try.pinned : Pinned := { name := "ytebhkfhdjdgokaa", sum := "7ce772ce6dd8fde488577168f9882e72d432c3cdb01f21aa94b6e60883651424", checked := Try.checked }
namespace Rows
def none {H : Type} : Left H := { results := [], args := [] }

/-- 'laws.FnExactPolyDegree': WHATEVER THE INPUT: true; the input reads as it did. -/
def fnExactPolyDegreeSpec : ChangeSpec := { name := "fnExactPolyDegree", fn := fun _ => fun
  | [d1, d2, d3] => { results := [.lit (.bool true)], args := [d1, d2, d3] }
  | _ => none }
def fnExactPolyDegreeRow : OpenClaim := { program := "ytebhkfhdjdgokaa", sum := "7ce772ce6dd8fde488577168f9882e72d432c3cdb01f21aa94b6e60883651424", func := "loop.example/g01080/laws.FnExactPolyDegree", spec := "fnExactPolyDegree", apart := false }
def FnExactPolyDegreeSaid : Prop := fnExactPolyDegreeRow.holds Try.pinned (OpenSpec.ofChange fnExactPolyDegreeSpec)

/-- ITS FALSE NEIGHBOUR: 'it returns false'. Refute it at one input. -/
def fnExactPolyDegreeWrong : ChangeSpec := { name := "fnExactPolyDegree", fn := fun _ => fun
  | [d1, d2, d3] => { results := [.lit (.bool false)], args := [d1, d2, d3] }
  | _ => none }
def FnExactPolyDegreeWrongFalsely : Prop := fnExactPolyDegreeRow.holds Try.pinned (OpenSpec.ofChange fnExactPolyDegreeWrong)

/-- 'laws.FnExactMoveCharge': WHATEVER THE INPUT: true; the input reads as it did. -/
def fnExactMoveChargeSpec : ChangeSpec := { name := "fnExactMoveCharge", fn := fun _ => fun
  | [d1, d2] => { results := [.lit (.bool true)], args := [d1, d2] }
  | _ => none }
def fnExactMoveChargeRow : OpenClaim := { program := "ytebhkfhdjdgokaa", sum := "7ce772ce6dd8fde488577168f9882e72d432c3cdb01f21aa94b6e60883651424", func := "loop.example/g01080/laws.FnExactMoveCharge", spec := "fnExactMoveCharge", apart := false }
def FnExactMoveChargeSaid : Prop := fnExactMoveChargeRow.holds Try.pinned (OpenSpec.ofChange fnExactMoveChargeSpec)

/-- ITS FALSE NEIGHBOUR: 'it returns false'. Refute it at one input. -/
def fnExactMoveChargeWrong : ChangeSpec := { name := "fnExactMoveCharge", fn := fun _ => fun
  | [d1, d2] => { results := [.lit (.bool false)], args := [d1, d2] }
  | _ => none }
def FnExactMoveChargeWrongFalsely : Prop := fnExactMoveChargeRow.holds Try.pinned (OpenSpec.ofChange fnExactMoveChargeWrong)

/-- 'laws.FnExactRemoveEdge': WHATEVER THE INPUT: true; the input reads as it did. -/
def fnExactRemoveEdgeSpec : ChangeSpec := { name := "fnExactRemoveEdge", fn := fun _ => fun
  | [d1, d2, d3] => { results := [.lit (.bool true)], args := [d1, d2, d3] }
  | _ => none }
def fnExactRemoveEdgeRow : OpenClaim := { program := "ytebhkfhdjdgokaa", sum := "7ce772ce6dd8fde488577168f9882e72d432c3cdb01f21aa94b6e60883651424", func := "loop.example/g01080/laws.FnExactRemoveEdge", spec := "fnExactRemoveEdge", apart := false }
def FnExactRemoveEdgeSaid : Prop := fnExactRemoveEdgeRow.holds Try.pinned (OpenSpec.ofChange fnExactRemoveEdgeSpec)

/-- ITS FALSE NEIGHBOUR: 'it returns false'. Refute it at one input. -/
def fnExactRemoveEdgeWrong : ChangeSpec := { name := "fnExactRemoveEdge", fn := fun _ => fun
  | [d1, d2, d3] => { results := [.lit (.bool false)], args := [d1, d2, d3] }
  | _ => none }
def FnExactRemoveEdgeWrongFalsely : Prop := fnExactRemoveEdgeRow.holds Try.pinned (OpenSpec.ofChange fnExactRemoveEdgeWrong)

/-- 'laws.FnExactSmallerIn': WHATEVER THE INPUT: true; the input reads as it did. -/
def fnExactSmallerInSpec : ChangeSpec := { name := "fnExactSmallerIn", fn := fun _ => fun
  | [d1, d2, d3] => { results := [.lit (.bool true)], args := [d1, d2, d3] }
  | _ => none }
def fnExactSmallerInRow : OpenClaim := { program := "ytebhkfhdjdgokaa", sum := "7ce772ce6dd8fde488577168f9882e72d432c3cdb01f21aa94b6e60883651424", func := "loop.example/g01080/laws.FnExactSmallerIn", spec := "fnExactSmallerIn", inPlace := ["internal/bytealg.abigen_runtime_cmpstring"], unfollowed := true, recurses := true, apart := false }
def FnExactSmallerInSaid : Prop := fnExactSmallerInRow.holds Try.pinned (OpenSpec.ofChange fnExactSmallerInSpec)

/-- ITS FALSE NEIGHBOUR: 'it returns false'. Refute it at one input. -/
def fnExactSmallerInWrong : ChangeSpec := { name := "fnExactSmallerIn", fn := fun _ => fun
  | [d1, d2, d3] => { results := [.lit (.bool false)], args := [d1, d2, d3] }
  | _ => none }
def FnExactSmallerInWrongFalsely : Prop := fnExactSmallerInRow.holds Try.pinned (OpenSpec.ofChange fnExactSmallerInWrong)

/- THE SECOND FORM. 'bulk': how many values and letters a reading holds, each counted each time it is reached (what is shared counts as often as it is met; a slice's spare places count too). A statement '..UptoSaid' is the law's where the arguments, and the package variables that the reading takes, are together of bulk at most 1048576: NARROWER than '..Said'. Prove '..Said' where nothing that the law and all that it calls make is longer than what came in: it says more and counts as full. Else prove '..UptoSaid'. A law counts once. -/
mutual
def uptoBulk {H : Type} : DataW H → Nat
  | .lit (.string bytes) => bytes.length + 1
  | .lit _ => 1
  | .nil => 1
  | .ptr d => uptoBulk d + 1
  | .slice elems spare => uptoBulkAll elems + uptoBulkAll spare + 1
  | .agg parts => uptoBulkAll parts + 1
  | .iface _ d => uptoBulk d + 1
  | .map entries => uptoBulkEntries entries + 1
  | .held _ => 1
def uptoBulkAll {H : Type} : List (DataW H) → Nat
  | [] => 0
  | d :: r => uptoBulk d + uptoBulkAll r
def uptoBulkEntries {H : Type} : List (Lit × DataW H) → Nat
  | [] => 0
  | x :: r => uptoBulkEntry x + uptoBulkEntries r
def uptoBulkEntry {H : Type} : Lit × DataW H → Nat
  | (.string bytes, d) => bytes.length + uptoBulk d + 1
  | (_, d) => uptoBulk d + 1
 end
def uptoSmall : (H : Type) → List (DataW H) → Bool := fun _ ds => decide (uptoBulkAll ds ≤ 1048576)
def OpenSpec.upto (s : _root_.Go.ChangeSpec) : _root_.Go.OpenSpec := { _root_.Go.OpenSpec.ofChange s with cond := some uptoSmall }

/-- 'laws.FnExactPolyDegree', WHERE WHAT IT READS IS OF BULK AT MOST 1048576: true; the input reads as it did. -/
def fnExactPolyDegreeUptoRow : OpenClaim := { program := "ytebhkfhdjdgokaa", sum := "7ce772ce6dd8fde488577168f9882e72d432c3cdb01f21aa94b6e60883651424", func := "loop.example/g01080/laws.FnExactPolyDegree", spec := "fnExactPolyDegree", apart := false, narrowed := true }
def FnExactPolyDegreeUptoSaid : Prop := fnExactPolyDegreeUptoRow.holds Try.pinned (OpenSpec.upto fnExactPolyDegreeSpec)

/-- 'laws.FnExactMoveCharge', WHERE WHAT IT READS IS OF BULK AT MOST 1048576: true; the input reads as it did. -/
def fnExactMoveChargeUptoRow : OpenClaim := { program := "ytebhkfhdjdgokaa", sum := "7ce772ce6dd8fde488577168f9882e72d432c3cdb01f21aa94b6e60883651424", func := "loop.example/g01080/laws.FnExactMoveCharge", spec := "fnExactMoveCharge", apart := false, narrowed := true }
def FnExactMoveChargeUptoSaid : Prop := fnExactMoveChargeUptoRow.holds Try.pinned (OpenSpec.upto fnExactMoveChargeSpec)

/-- 'laws.FnExactRemoveEdge', WHERE WHAT IT READS IS OF BULK AT MOST 1048576: true; the input reads as it did. -/
def fnExactRemoveEdgeUptoRow : OpenClaim := { program := "ytebhkfhdjdgokaa", sum := "7ce772ce6dd8fde488577168f9882e72d432c3cdb01f21aa94b6e60883651424", func := "loop.example/g01080/laws.FnExactRemoveEdge", spec := "fnExactRemoveEdge", apart := false, narrowed := true }
def FnExactRemoveEdgeUptoSaid : Prop := fnExactRemoveEdgeUptoRow.holds Try.pinned (OpenSpec.upto fnExactRemoveEdgeSpec)

/-- 'laws.FnExactSmallerIn', WHERE WHAT IT READS IS OF BULK AT MOST 1048576: true; the input reads as it did. -/
def fnExactSmallerInUptoRow : OpenClaim := { program := "ytebhkfhdjdgokaa", sum := "7ce772ce6dd8fde488577168f9882e72d432c3cdb01f21aa94b6e60883651424", func := "loop.example/g01080/laws.FnExactSmallerIn", spec := "fnExactSmallerIn", inPlace := ["internal/bytealg.abigen_runtime_cmpstring"], unfollowed := true, recurses := true, apart := false, narrowed := true }
def FnExactSmallerInUptoSaid : Prop := fnExactSmallerInUptoRow.holds Try.pinned (OpenSpec.upto fnExactSmallerInSpec)

end Rows
end Go.Proofs.Ytebhkfhdjdgokaa
