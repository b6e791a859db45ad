/-
  DERIVED. GIVEN WITH THE SEED: THE CARDS: each row of YtcapiijpfoapkaaDoorRows.lean that lists a variable, with what it lists TIED to the program's text (the seventh form; the later family's looks); each row that meets fmt, with fmt's text TOLD by the authors' own Lean function (tested against real Go, not proved from fmt's source: count such statements apart). THE CARD IS WHAT COUNTS. Prove the row's statement (the work); the ties are given (YtcapiijpfoapkaaDoorTie.lean); close each card by the builder's one call (the guide's Derived/Test/ToyasCard.lean, 'card_holds'). Laid BY PROGRAM, IN A SANDBOX (cutbox-door.mjs). By AI agents, Wed Nov 11 2026. No macro, syntax, notation, axiom, sorry.
-/
import Derived.Test.YtcapiijpfoapkaaDoorRows
import GoSem.ClaimSeven
namespace Go.Proofs.YtcapiijpfoapkaaDoor
namespace Rows

/-- THE TIED CARD OF 'laws.FnExactMergeBooks'. -/
def fnExactMergeBooksCard : Claim7 := { stood := { row := fnExactMergeBooksRow, standIns := [], harness := (true, "8778c3b7102b24603bfa41a25614ab8c15d4d42420d11b555a67e1422b9f93d5"), looks := false }, kinds := [], alts := [], laidByText := true, laidKinds := [.sentinel], laidTests := true, laidLooks := .later }
def FnExactMergeBooksCardSaid : Prop := Claim7.holds Tryd.pinned (.plain (OpenSpec.ofChange fnExactMergeBooksSpec)) fnExactMergeBooksCard

/-- THE TIED CARD OF 'laws.FnExactBookText'. -/
def fnExactBookTextCard : Claim7 := { stood := { row := fnExactBookTextRow, standIns := [], harness := (true, "8778c3b7102b24603bfa41a25614ab8c15d4d42420d11b555a67e1422b9f93d5"), looks := false }, kinds := [], alts := [], laidByText := true, laidKinds := [.data, .data, .data], laidTests := true, laidLooks := .later }
def FnExactBookTextCardSaid : Prop := Claim7.holds Tryd.pinned (.plain (OpenSpec.ofChange fnExactBookTextSpec)) fnExactBookTextCard

/-- THE SECOND FORM's CARD OF 'laws.FnExactMergeBooks'. -/
def fnExactMergeBooksUptoCard : Claim7 := { stood := { row := fnExactMergeBooksUptoRow, standIns := [], harness := (true, "8778c3b7102b24603bfa41a25614ab8c15d4d42420d11b555a67e1422b9f93d5"), looks := false }, kinds := [], alts := [], laidByText := true, laidKinds := [.sentinel], laidTests := true, laidLooks := .later }
def FnExactMergeBooksUptoCardSaid : Prop := Claim7.holds Tryd.pinned (.plain (OpenSpec.upto fnExactMergeBooksSpec)) fnExactMergeBooksUptoCard

/-- THE SECOND FORM's CARD OF 'laws.FnExactBookText'. -/
def fnExactBookTextUptoCard : Claim7 := { stood := { row := fnExactBookTextUptoRow, standIns := [], harness := (true, "8778c3b7102b24603bfa41a25614ab8c15d4d42420d11b555a67e1422b9f93d5"), looks := false }, kinds := [], alts := [], laidByText := true, laidKinds := [.data, .data, .data], laidTests := true, laidLooks := .later }
def FnExactBookTextUptoCardSaid : Prop := Claim7.holds Tryd.pinned (.plain (OpenSpec.upto fnExactBookTextSpec)) fnExactBookTextUptoCard
end Rows
end Go.Proofs.YtcapiijpfoapkaaDoor
