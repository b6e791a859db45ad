/-
  No cell of these rows narrows 'for every input' (looked for: loops, veiled, ifaces, maps, wideKeys, modest, calm, conditions, laid).
  DERIVED. THE GIVEN ROWS OF THIS SEAT. 6 by the template 'for every input the law returns true; each argument reads behind the call as it read before'; 0 by the template 'total and deterministic' (their statements: YtmikconjhmhekaaTotals.lean).
  GIVEN WITH THE SEED: the statements are not yours to turn. If you find one false, say at which input.
  Laid BY PROGRAM, IN A SANDBOX (cutbox-rows.mjs): the forced cells as the released guide's own fill.sh prints them over the translation 7e41ea819dcecc6d… (all of the seat's roots in one cut). By AI agents, Wed Nov 11 2026. No macro, syntax, notation, axiom, sorry.
-/
import Derived.Test.YtmikconjhmhekaaChecked
import GoSem.Claim
import GoSem.ClaimJoined
import GoSem.ClaimMapViews
import Derived.JoinedTies
import Derived.KernelRfl
namespace Go.Proofs.Ytmikconjhmhekaa
/- THE CELL 'sum', in the pinned program and in every row, IS THE sha256 OF THE DUMP (.gsa) THAT YtmikconjhmhekaaProg.lean LOADS. Nothing in Lean hashes anything: it is a label: what it is worth is what the hold of that sum in a sandbox is worth. -/
noncomputable def Try.pinned : Pinned := { name := "ytmikconjhmhekaa", sum := "7e41ea819dcecc6dff17657f3f4ba5c730d5df92cc53e1b147a6afb582d426ec", checked := Try.checked }
namespace Rows
def none {H : Type} : Left H := { results := [], args := [] }

/-- 'laws.FnModels': WHATEVER THE INPUT: true; the input reads as it did. -/
def fnModelsSpec : ChangeSpec := { name := "fnModels", fn := fun _ => fun
  | [d] => { results := [.lit (.bool true)], args := [d] }
  | _ => none }
def fnModelsRow : OpenClaim := { program := "ytmikconjhmhekaa", sum := "7e41ea819dcecc6dff17657f3f4ba5c730d5df92cc53e1b147a6afb582d426ec", func := "loop.example/g01080/laws.FnModels", spec := "fnModels", unfollowed := true, recurses := true, apart := false }
def FnModelsSaid : Prop := fnModelsRow.holds Try.pinned (OpenSpec.ofChange fnModelsSpec)

/-- ITS FALSE NEIGHBOUR: 'it returns false'. Refute it at one input. -/
def fnModelsWrong : ChangeSpec := { name := "fnModels", fn := fun _ => fun
  | [d] => { results := [.lit (.bool false)], args := [d] }
  | _ => none }
def FnModelsWrongFalsely : Prop := fnModelsRow.holds Try.pinned (OpenSpec.ofChange fnModelsWrong)

/-- 'laws.FnCores': WHATEVER THE INPUT: true; the input reads as it did. -/
def fnCoresSpec : ChangeSpec := { name := "fnCores", fn := fun _ => fun
  | [d] => { results := [.lit (.bool true)], args := [d] }
  | _ => none }
def fnCoresRow : OpenClaim := { program := "ytmikconjhmhekaa", sum := "7e41ea819dcecc6dff17657f3f4ba5c730d5df92cc53e1b147a6afb582d426ec", func := "loop.example/g01080/laws.FnCores", spec := "fnCores", unfollowed := true, recurses := true, apart := false }
def FnCoresSaid : Prop := fnCoresRow.holds Try.pinned (OpenSpec.ofChange fnCoresSpec)

/-- ITS FALSE NEIGHBOUR: 'it returns false'. Refute it at one input. -/
def fnCoresWrong : ChangeSpec := { name := "fnCores", fn := fun _ => fun
  | [d] => { results := [.lit (.bool false)], args := [d] }
  | _ => none }
def FnCoresWrongFalsely : Prop := fnCoresRow.holds Try.pinned (OpenSpec.ofChange fnCoresWrong)

/-- 'laws.FnCnfCircuits': WHATEVER THE INPUT: true; the input reads as it did. -/
def fnCnfCircuitsSpec : ChangeSpec := { name := "fnCnfCircuits", fn := fun _ => fun
  | [d] => { results := [.lit (.bool true)], args := [d] }
  | _ => none }
def fnCnfCircuitsRow : OpenClaim := { program := "ytmikconjhmhekaa", sum := "7e41ea819dcecc6dff17657f3f4ba5c730d5df92cc53e1b147a6afb582d426ec", func := "loop.example/g01080/laws.FnCnfCircuits", spec := "fnCnfCircuits", unfollowed := true, recurses := true, apart := false }
def FnCnfCircuitsSaid : Prop := fnCnfCircuitsRow.holds Try.pinned (OpenSpec.ofChange fnCnfCircuitsSpec)

/-- ITS FALSE NEIGHBOUR: 'it returns false'. Refute it at one input. -/
def fnCnfCircuitsWrong : ChangeSpec := { name := "fnCnfCircuits", fn := fun _ => fun
  | [d] => { results := [.lit (.bool false)], args := [d] }
  | _ => none }
def FnCnfCircuitsWrongFalsely : Prop := fnCnfCircuitsRow.holds Try.pinned (OpenSpec.ofChange fnCnfCircuitsWrong)

/-- 'laws.FnDiagramTraces': WHATEVER THE INPUT: true; the input reads as it did. -/
def fnDiagramTracesSpec : ChangeSpec := { name := "fnDiagramTraces", fn := fun _ => fun
  | [d] => { results := [.lit (.bool true)], args := [d] }
  | _ => none }
def fnDiagramTracesRow : OpenClaim := { program := "ytmikconjhmhekaa", sum := "7e41ea819dcecc6dff17657f3f4ba5c730d5df92cc53e1b147a6afb582d426ec", func := "loop.example/g01080/laws.FnDiagramTraces", spec := "fnDiagramTraces", unfollowed := true, recurses := true, apart := false }
def FnDiagramTracesSaid : Prop := fnDiagramTracesRow.holds Try.pinned (OpenSpec.ofChange fnDiagramTracesSpec)

/-- ITS FALSE NEIGHBOUR: 'it returns false'. Refute it at one input. -/
def fnDiagramTracesWrong : ChangeSpec := { name := "fnDiagramTraces", fn := fun _ => fun
  | [d] => { results := [.lit (.bool false)], args := [d] }
  | _ => none }
def FnDiagramTracesWrongFalsely : Prop := fnDiagramTracesRow.holds Try.pinned (OpenSpec.ofChange fnDiagramTracesWrong)

/-- 'laws.FnSides': WHATEVER THE INPUT: true; the input reads as it did. -/
def fnSidesSpec : ChangeSpec := { name := "fnSides", fn := fun _ => fun
  | [d] => { results := [.lit (.bool true)], args := [d] }
  | _ => none }
def fnSidesRow : OpenClaim := { program := "ytmikconjhmhekaa", sum := "7e41ea819dcecc6dff17657f3f4ba5c730d5df92cc53e1b147a6afb582d426ec", func := "loop.example/g01080/laws.FnSides", spec := "fnSides", unfollowed := true, recurses := true, apart := false }
def FnSidesSaid : Prop := fnSidesRow.holds Try.pinned (OpenSpec.ofChange fnSidesSpec)

/-- ITS FALSE NEIGHBOUR: 'it returns false'. Refute it at one input. -/
def fnSidesWrong : ChangeSpec := { name := "fnSides", fn := fun _ => fun
  | [d] => { results := [.lit (.bool false)], args := [d] }
  | _ => none }
def FnSidesWrongFalsely : Prop := fnSidesRow.holds Try.pinned (OpenSpec.ofChange fnSidesWrong)

/-- 'laws.FnAssignments': WHATEVER THE INPUT: true; the input reads as it did. -/
def fnAssignmentsSpec : ChangeSpec := { name := "fnAssignments", fn := fun _ => fun
  | [d] => { results := [.lit (.bool true)], args := [d] }
  | _ => none }
def fnAssignmentsRow : OpenClaim := { program := "ytmikconjhmhekaa", sum := "7e41ea819dcecc6dff17657f3f4ba5c730d5df92cc53e1b147a6afb582d426ec", func := "loop.example/g01080/laws.FnAssignments", spec := "fnAssignments", unfollowed := true, recurses := true, apart := false }
def FnAssignmentsSaid : Prop := fnAssignmentsRow.holds Try.pinned (OpenSpec.ofChange fnAssignmentsSpec)

/-- ITS FALSE NEIGHBOUR: 'it returns false'. Refute it at one input. -/
def fnAssignmentsWrong : ChangeSpec := { name := "fnAssignments", fn := fun _ => fun
  | [d] => { results := [.lit (.bool false)], args := [d] }
  | _ => none }
def FnAssignmentsWrongFalsely : Prop := fnAssignmentsRow.holds Try.pinned (OpenSpec.ofChange fnAssignmentsWrong)

/- THE SECOND FORM. 'bulk': how many values and letters a reading holds, each counted each time it is reached (what is shared counts as often as it is met; a slice's spare places count too). A statement '..UptoSaid' is the law's where the arguments, and the package variables that the reading takes, are together of bulk at most 1048576: NARROWER than '..Said'. Prove '..Said' where nothing that the law and all that it calls make is longer than what came in: it says more and counts as full. Else prove '..UptoSaid'. A law counts once. -/
mutual
def uptoBulk {H : Type} : DataW H → Nat
  | .lit (.string bytes) => bytes.length + 1
  | .lit _ => 1
  | .nil => 1
  | .ptr d => uptoBulk d + 1
  | .slice elems spare => uptoBulkAll elems + uptoBulkAll spare + 1
  | .agg parts => uptoBulkAll parts + 1
  | .iface _ d => uptoBulk d + 1
  | .map entries => uptoBulkEntries entries + 1
  | .held _ => 1
def uptoBulkAll {H : Type} : List (DataW H) → Nat
  | [] => 0
  | d :: r => uptoBulk d + uptoBulkAll r
def uptoBulkEntries {H : Type} : List (Lit × DataW H) → Nat
  | [] => 0
  | x :: r => uptoBulkEntry x + uptoBulkEntries r
def uptoBulkEntry {H : Type} : Lit × DataW H → Nat
  | (.string bytes, d) => bytes.length + uptoBulk d + 1
  | (_, d) => uptoBulk d + 1
 end
def uptoSmall : (H : Type) → List (DataW H) → Bool := fun _ ds => decide (uptoBulkAll ds ≤ 1048576)
def OpenSpec.upto (s : _root_.Go.ChangeSpec) : _root_.Go.OpenSpec := { _root_.Go.OpenSpec.ofChange s with cond := some uptoSmall }

/-- 'laws.FnModels', WHERE WHAT IT READS IS OF BULK AT MOST 1048576: true; the input reads as it did. -/
def fnModelsUptoRow : OpenClaim := { program := "ytmikconjhmhekaa", sum := "7e41ea819dcecc6dff17657f3f4ba5c730d5df92cc53e1b147a6afb582d426ec", func := "loop.example/g01080/laws.FnModels", spec := "fnModels", unfollowed := true, recurses := true, apart := false, narrowed := true }
def FnModelsUptoSaid : Prop := fnModelsUptoRow.holds Try.pinned (OpenSpec.upto fnModelsSpec)

/-- 'laws.FnCores', WHERE WHAT IT READS IS OF BULK AT MOST 1048576: true; the input reads as it did. -/
def fnCoresUptoRow : OpenClaim := { program := "ytmikconjhmhekaa", sum := "7e41ea819dcecc6dff17657f3f4ba5c730d5df92cc53e1b147a6afb582d426ec", func := "loop.example/g01080/laws.FnCores", spec := "fnCores", unfollowed := true, recurses := true, apart := false, narrowed := true }
def FnCoresUptoSaid : Prop := fnCoresUptoRow.holds Try.pinned (OpenSpec.upto fnCoresSpec)

/-- 'laws.FnCnfCircuits', WHERE WHAT IT READS IS OF BULK AT MOST 1048576: true; the input reads as it did. -/
def fnCnfCircuitsUptoRow : OpenClaim := { program := "ytmikconjhmhekaa", sum := "7e41ea819dcecc6dff17657f3f4ba5c730d5df92cc53e1b147a6afb582d426ec", func := "loop.example/g01080/laws.FnCnfCircuits", spec := "fnCnfCircuits", unfollowed := true, recurses := true, apart := false, narrowed := true }
def FnCnfCircuitsUptoSaid : Prop := fnCnfCircuitsUptoRow.holds Try.pinned (OpenSpec.upto fnCnfCircuitsSpec)

/-- 'laws.FnDiagramTraces', WHERE WHAT IT READS IS OF BULK AT MOST 1048576: true; the input reads as it did. -/
def fnDiagramTracesUptoRow : OpenClaim := { program := "ytmikconjhmhekaa", sum := "7e41ea819dcecc6dff17657f3f4ba5c730d5df92cc53e1b147a6afb582d426ec", func := "loop.example/g01080/laws.FnDiagramTraces", spec := "fnDiagramTraces", unfollowed := true, recurses := true, apart := false, narrowed := true }
def FnDiagramTracesUptoSaid : Prop := fnDiagramTracesUptoRow.holds Try.pinned (OpenSpec.upto fnDiagramTracesSpec)

/-- 'laws.FnSides', WHERE WHAT IT READS IS OF BULK AT MOST 1048576: true; the input reads as it did. -/
def fnSidesUptoRow : OpenClaim := { program := "ytmikconjhmhekaa", sum := "7e41ea819dcecc6dff17657f3f4ba5c730d5df92cc53e1b147a6afb582d426ec", func := "loop.example/g01080/laws.FnSides", spec := "fnSides", unfollowed := true, recurses := true, apart := false, narrowed := true }
def FnSidesUptoSaid : Prop := fnSidesUptoRow.holds Try.pinned (OpenSpec.upto fnSidesSpec)

/-- 'laws.FnAssignments', WHERE WHAT IT READS IS OF BULK AT MOST 1048576: true; the input reads as it did. -/
def fnAssignmentsUptoRow : OpenClaim := { program := "ytmikconjhmhekaa", sum := "7e41ea819dcecc6dff17657f3f4ba5c730d5df92cc53e1b147a6afb582d426ec", func := "loop.example/g01080/laws.FnAssignments", spec := "fnAssignments", unfollowed := true, recurses := true, apart := false, narrowed := true }
def FnAssignmentsUptoSaid : Prop := fnAssignmentsUptoRow.holds Try.pinned (OpenSpec.upto fnAssignmentsSpec)

end Rows
end Go.Proofs.Ytmikconjhmhekaa
