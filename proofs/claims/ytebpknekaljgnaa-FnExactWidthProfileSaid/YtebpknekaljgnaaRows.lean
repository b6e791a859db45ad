/-
  No cell of these rows narrows 'for every input' (looked for: loops, veiled, ifaces, maps, wideKeys, modest, calm, conditions, laid).
  DERIVED. THE GIVEN ROWS OF THIS SEAT. 5 by the template 'for every input the law returns true; each argument reads behind the call as it read before'; 0 by the template 'total and deterministic' (their statements: YtebpknekaljgnaaTotals.lean).
  GIVEN WITH THE SEED: the statements are not yours to turn. If you find one false, say at which input.
  Laid BY PROGRAM, IN A SANDBOX (cutbox-rows.mjs): the forced cells as the released guide's own fill.sh prints them over the translation 24f208cd36135dba… (all of the seat's roots in one cut). By AI agents, Wed Nov 11 2026. No macro, syntax, notation, axiom, sorry.
-/
import Derived.Test.YtebpknekaljgnaaChecked
import GoSem.Claim
import GoSem.ClaimJoined
import GoSem.ClaimMapViews
import Derived.JoinedTies
import Derived.KernelRfl
namespace Go.Proofs.Ytebpknekaljgnaa
/- THE CELL 'sum', in the pinned program and in every row, IS THE sha256 OF THE DUMP (.gsa) THAT YtebpknekaljgnaaProg.lean LOADS. Nothing in Lean hashes anything: it is a label: what it is worth is what the hold of that sum in a sandbox is worth. -/
noncomputable def Try.pinned : Pinned := { name := "ytebpknekaljgnaa", sum := "24f208cd36135dba67a93a8e79c9873a8796d11511e44c175ecfa8a8f0ff15eb", checked := Try.checked }
namespace Rows
def none {H : Type} : Left H := { results := [], args := [] }

/-- 'laws.FnExactIsInClosure': WHATEVER THE INPUT: true; the input reads as it did. -/
def fnExactIsInClosureSpec : ChangeSpec := { name := "fnExactIsInClosure", fn := fun _ => fun
  | [d1, d2, d3] => { results := [.lit (.bool true)], args := [d1, d2, d3] }
  | _ => none }
def fnExactIsInClosureRow : OpenClaim := { program := "ytebpknekaljgnaa", sum := "24f208cd36135dba67a93a8e79c9873a8796d11511e44c175ecfa8a8f0ff15eb", func := "loop.example/g01080/laws.FnExactIsInClosure", spec := "fnExactIsInClosure", apart := false }
def FnExactIsInClosureSaid : Prop := fnExactIsInClosureRow.holds Try.pinned (OpenSpec.ofChange fnExactIsInClosureSpec)

/-- ITS FALSE NEIGHBOUR: 'it returns false'. Refute it at one input. -/
def fnExactIsInClosureWrong : ChangeSpec := { name := "fnExactIsInClosure", fn := fun _ => fun
  | [d1, d2, d3] => { results := [.lit (.bool false)], args := [d1, d2, d3] }
  | _ => none }
def FnExactIsInClosureWrongFalsely : Prop := fnExactIsInClosureRow.holds Try.pinned (OpenSpec.ofChange fnExactIsInClosureWrong)

/-- 'laws.FnExactHasNarrowRefutation': WHATEVER THE INPUT: true; the input reads as it did. -/
def fnExactHasNarrowRefutationSpec : ChangeSpec := { name := "fnExactHasNarrowRefutation", fn := fun _ => fun
  | [d1, d2] => { results := [.lit (.bool true)], args := [d1, d2] }
  | _ => none }
def fnExactHasNarrowRefutationRow : OpenClaim := { program := "ytebpknekaljgnaa", sum := "24f208cd36135dba67a93a8e79c9873a8796d11511e44c175ecfa8a8f0ff15eb", func := "loop.example/g01080/laws.FnExactHasNarrowRefutation", spec := "fnExactHasNarrowRefutation", apart := false }
def FnExactHasNarrowRefutationSaid : Prop := fnExactHasNarrowRefutationRow.holds Try.pinned (OpenSpec.ofChange fnExactHasNarrowRefutationSpec)

/-- ITS FALSE NEIGHBOUR: 'it returns false'. Refute it at one input. -/
def fnExactHasNarrowRefutationWrong : ChangeSpec := { name := "fnExactHasNarrowRefutation", fn := fun _ => fun
  | [d1, d2] => { results := [.lit (.bool false)], args := [d1, d2] }
  | _ => none }
def FnExactHasNarrowRefutationWrongFalsely : Prop := fnExactHasNarrowRefutationRow.holds Try.pinned (OpenSpec.ofChange fnExactHasNarrowRefutationWrong)

/-- 'laws.FnExactRoundsToEmpty': WHATEVER THE INPUT: true; the input reads as it did. -/
def fnExactRoundsToEmptySpec : ChangeSpec := { name := "fnExactRoundsToEmpty", fn := fun _ => fun
  | [d] => { results := [.lit (.bool true)], args := [d] }
  | _ => none }
def fnExactRoundsToEmptyRow : OpenClaim := { program := "ytebpknekaljgnaa", sum := "24f208cd36135dba67a93a8e79c9873a8796d11511e44c175ecfa8a8f0ff15eb", func := "loop.example/g01080/laws.FnExactRoundsToEmpty", spec := "fnExactRoundsToEmpty", apart := false }
def FnExactRoundsToEmptySaid : Prop := fnExactRoundsToEmptyRow.holds Try.pinned (OpenSpec.ofChange fnExactRoundsToEmptySpec)

/-- ITS FALSE NEIGHBOUR: 'it returns false'. Refute it at one input. -/
def fnExactRoundsToEmptyWrong : ChangeSpec := { name := "fnExactRoundsToEmpty", fn := fun _ => fun
  | [d] => { results := [.lit (.bool false)], args := [d] }
  | _ => none }
def FnExactRoundsToEmptyWrongFalsely : Prop := fnExactRoundsToEmptyRow.holds Try.pinned (OpenSpec.ofChange fnExactRoundsToEmptyWrong)

/-- 'laws.FnExactLeastWidth': WHATEVER THE INPUT: true; the input reads as it did. -/
def fnExactLeastWidthSpec : ChangeSpec := { name := "fnExactLeastWidth", fn := fun _ => fun
  | [d] => { results := [.lit (.bool true)], args := [d] }
  | _ => none }
def fnExactLeastWidthRow : OpenClaim := { program := "ytebpknekaljgnaa", sum := "24f208cd36135dba67a93a8e79c9873a8796d11511e44c175ecfa8a8f0ff15eb", func := "loop.example/g01080/laws.FnExactLeastWidth", spec := "fnExactLeastWidth", apart := false }
def FnExactLeastWidthSaid : Prop := fnExactLeastWidthRow.holds Try.pinned (OpenSpec.ofChange fnExactLeastWidthSpec)

/-- ITS FALSE NEIGHBOUR: 'it returns false'. Refute it at one input. -/
def fnExactLeastWidthWrong : ChangeSpec := { name := "fnExactLeastWidth", fn := fun _ => fun
  | [d] => { results := [.lit (.bool false)], args := [d] }
  | _ => none }
def FnExactLeastWidthWrongFalsely : Prop := fnExactLeastWidthRow.holds Try.pinned (OpenSpec.ofChange fnExactLeastWidthWrong)

/-- 'laws.FnExactWidthProfile': WHATEVER THE INPUT: true; the input reads as it did. -/
def fnExactWidthProfileSpec : ChangeSpec := { name := "fnExactWidthProfile", fn := fun _ => fun
  | [d1, d2] => { results := [.lit (.bool true)], args := [d1, d2] }
  | _ => none }
def fnExactWidthProfileRow : OpenClaim := { program := "ytebpknekaljgnaa", sum := "24f208cd36135dba67a93a8e79c9873a8796d11511e44c175ecfa8a8f0ff15eb", func := "loop.example/g01080/laws.FnExactWidthProfile", spec := "fnExactWidthProfile", apart := false }
def FnExactWidthProfileSaid : Prop := fnExactWidthProfileRow.holds Try.pinned (OpenSpec.ofChange fnExactWidthProfileSpec)

/-- ITS FALSE NEIGHBOUR: 'it returns false'. Refute it at one input. -/
def fnExactWidthProfileWrong : ChangeSpec := { name := "fnExactWidthProfile", fn := fun _ => fun
  | [d1, d2] => { results := [.lit (.bool false)], args := [d1, d2] }
  | _ => none }
def FnExactWidthProfileWrongFalsely : Prop := fnExactWidthProfileRow.holds Try.pinned (OpenSpec.ofChange fnExactWidthProfileWrong)

/- THE SECOND FORM. 'bulk': how many values and letters a reading holds, each counted each time it is reached (what is shared counts as often as it is met; a slice's spare places count too). A statement '..UptoSaid' is the law's where the arguments, and the package variables that the reading takes, are together of bulk at most 1048576: NARROWER than '..Said'. Prove '..Said' where nothing that the law and all that it calls make is longer than what came in: it says more and counts as full. Else prove '..UptoSaid'. A law counts once. -/
mutual
def uptoBulk {H : Type} : DataW H → Nat
  | .lit (.string bytes) => bytes.length + 1
  | .lit _ => 1
  | .nil => 1
  | .ptr d => uptoBulk d + 1
  | .slice elems spare => uptoBulkAll elems + uptoBulkAll spare + 1
  | .agg parts => uptoBulkAll parts + 1
  | .iface _ d => uptoBulk d + 1
  | .map entries => uptoBulkEntries entries + 1
  | .held _ => 1
def uptoBulkAll {H : Type} : List (DataW H) → Nat
  | [] => 0
  | d :: r => uptoBulk d + uptoBulkAll r
def uptoBulkEntries {H : Type} : List (Lit × DataW H) → Nat
  | [] => 0
  | x :: r => uptoBulkEntry x + uptoBulkEntries r
def uptoBulkEntry {H : Type} : Lit × DataW H → Nat
  | (.string bytes, d) => bytes.length + uptoBulk d + 1
  | (_, d) => uptoBulk d + 1
 end
def uptoSmall : (H : Type) → List (DataW H) → Bool := fun _ ds => decide (uptoBulkAll ds ≤ 1048576)
def OpenSpec.upto (s : _root_.Go.ChangeSpec) : _root_.Go.OpenSpec := { _root_.Go.OpenSpec.ofChange s with cond := some uptoSmall }

/-- 'laws.FnExactIsInClosure', WHERE WHAT IT READS IS OF BULK AT MOST 1048576: true; the input reads as it did. -/
def fnExactIsInClosureUptoRow : OpenClaim := { program := "ytebpknekaljgnaa", sum := "24f208cd36135dba67a93a8e79c9873a8796d11511e44c175ecfa8a8f0ff15eb", func := "loop.example/g01080/laws.FnExactIsInClosure", spec := "fnExactIsInClosure", apart := false, narrowed := true }
def FnExactIsInClosureUptoSaid : Prop := fnExactIsInClosureUptoRow.holds Try.pinned (OpenSpec.upto fnExactIsInClosureSpec)

/-- 'laws.FnExactHasNarrowRefutation', WHERE WHAT IT READS IS OF BULK AT MOST 1048576: true; the input reads as it did. -/
def fnExactHasNarrowRefutationUptoRow : OpenClaim := { program := "ytebpknekaljgnaa", sum := "24f208cd36135dba67a93a8e79c9873a8796d11511e44c175ecfa8a8f0ff15eb", func := "loop.example/g01080/laws.FnExactHasNarrowRefutation", spec := "fnExactHasNarrowRefutation", apart := false, narrowed := true }
def FnExactHasNarrowRefutationUptoSaid : Prop := fnExactHasNarrowRefutationUptoRow.holds Try.pinned (OpenSpec.upto fnExactHasNarrowRefutationSpec)

/-- 'laws.FnExactRoundsToEmpty', WHERE WHAT IT READS IS OF BULK AT MOST 1048576: true; the input reads as it did. -/
def fnExactRoundsToEmptyUptoRow : OpenClaim := { program := "ytebpknekaljgnaa", sum := "24f208cd36135dba67a93a8e79c9873a8796d11511e44c175ecfa8a8f0ff15eb", func := "loop.example/g01080/laws.FnExactRoundsToEmpty", spec := "fnExactRoundsToEmpty", apart := false, narrowed := true }
def FnExactRoundsToEmptyUptoSaid : Prop := fnExactRoundsToEmptyUptoRow.holds Try.pinned (OpenSpec.upto fnExactRoundsToEmptySpec)

/-- 'laws.FnExactLeastWidth', WHERE WHAT IT READS IS OF BULK AT MOST 1048576: true; the input reads as it did. -/
def fnExactLeastWidthUptoRow : OpenClaim := { program := "ytebpknekaljgnaa", sum := "24f208cd36135dba67a93a8e79c9873a8796d11511e44c175ecfa8a8f0ff15eb", func := "loop.example/g01080/laws.FnExactLeastWidth", spec := "fnExactLeastWidth", apart := false, narrowed := true }
def FnExactLeastWidthUptoSaid : Prop := fnExactLeastWidthUptoRow.holds Try.pinned (OpenSpec.upto fnExactLeastWidthSpec)

/-- 'laws.FnExactWidthProfile', WHERE WHAT IT READS IS OF BULK AT MOST 1048576: true; the input reads as it did. -/
def fnExactWidthProfileUptoRow : OpenClaim := { program := "ytebpknekaljgnaa", sum := "24f208cd36135dba67a93a8e79c9873a8796d11511e44c175ecfa8a8f0ff15eb", func := "loop.example/g01080/laws.FnExactWidthProfile", spec := "fnExactWidthProfile", apart := false, narrowed := true }
def FnExactWidthProfileUptoSaid : Prop := fnExactWidthProfileUptoRow.holds Try.pinned (OpenSpec.upto fnExactWidthProfileSpec)

end Rows
end Go.Proofs.Ytebpknekaljgnaa
