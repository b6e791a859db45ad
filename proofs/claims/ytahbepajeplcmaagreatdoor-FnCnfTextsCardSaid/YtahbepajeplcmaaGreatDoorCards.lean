/-
  DERIVED. GIVEN WITH THE SEED: THE CARDS: each row of YtahbepajeplcmaaGreatDoorRows.lean that lists a variable, with what it lists TIED to the program's text (the seventh form; the later family's looks); each row that meets fmt, with fmt's text TOLD by the authors' own Lean function (tested against real Go, not proved from fmt's source: count such statements apart). THE CARD IS WHAT COUNTS. Prove the row's statement (the work); the ties are given (YtahbepajeplcmaaGreatDoorTie.lean); close each card by the builder's one call (the guide's Derived/Test/ToyasCard.lean, 'card_holds'). Laid BY PROGRAM, IN A SANDBOX (cutbox-door.mjs). By AI agents, Wed Nov 11 2026. No macro, syntax, notation, axiom, sorry.
-/
import Derived.Test.YtahbepajeplcmaaGreatDoorRows
import GoSem.ClaimSeven
namespace Go.Proofs.YtahbepajeplcmaaGreatDoor
namespace Rows

/-- THE TIED CARD OF 'laws.FnRecords'. -/
def fnRecordsCard : Claim7 := { stood := { row := fnRecordsRow, standIns := [], harness := (true, "f84767aee95850eebc1e4daf961da4befc949325f27af50adbb1f86c584a112e"), looks := true }, kinds := [], alts := [], laidByText := true, laidKinds := [.data, .data, .data, .data, .sentinel, .sentinel, .sentinel, .pinned], laidTests := true, laidLooks := .later }
def FnRecordsCardSaid : Prop := Claim7.holds Tryz.pinned (.plain (OpenSpec.ofChange fnRecordsSpec)) fnRecordsCard

/-- THE TIED CARD OF 'laws.FnLiterals'. -/
def fnLiteralsCard : Claim7 := { stood := { row := fnLiteralsRow, standIns := [], harness := (true, "f84767aee95850eebc1e4daf961da4befc949325f27af50adbb1f86c584a112e"), looks := true }, kinds := [], alts := [], laidByText := true, laidKinds := [.data, .data, .data, .data, .sentinel, .sentinel, .pinned], laidTests := true, laidLooks := .later }
def FnLiteralsCardSaid : Prop := Claim7.holds Tryz.pinned (.plain (OpenSpec.ofChange fnLiteralsSpec)) fnLiteralsCard

/-- THE TIED CARD OF 'laws.FnCnfTexts'. -/
def fnCnfTextsCard : Claim7 := { stood := { row := fnCnfTextsRow, standIns := [], harness := (true, "f84767aee95850eebc1e4daf961da4befc949325f27af50adbb1f86c584a112e"), looks := true }, kinds := [], alts := [], laidByText := true, laidKinds := [.data, .data, .data, .data, .sentinel, .sentinel, .pinned], laidTests := true, laidLooks := .later }
def FnCnfTextsCardSaid : Prop := Claim7.holds Tryz.pinned (.plain (OpenSpec.ofChange fnCnfTextsSpec)) fnCnfTextsCard

/-- THE SECOND FORM's CARD OF 'laws.FnRecords'. -/
def fnRecordsUptoCard : Claim7 := { stood := { row := fnRecordsUptoRow, standIns := [], harness := (true, "f84767aee95850eebc1e4daf961da4befc949325f27af50adbb1f86c584a112e"), looks := true }, kinds := [], alts := [], laidByText := true, laidKinds := [.data, .data, .data, .data, .sentinel, .sentinel, .sentinel, .pinned], laidTests := true, laidLooks := .later }
def FnRecordsUptoCardSaid : Prop := Claim7.holds Tryz.pinned (.plain (OpenSpec.upto fnRecordsSpec)) fnRecordsUptoCard

/-- THE SECOND FORM's CARD OF 'laws.FnLiterals'. -/
def fnLiteralsUptoCard : Claim7 := { stood := { row := fnLiteralsUptoRow, standIns := [], harness := (true, "f84767aee95850eebc1e4daf961da4befc949325f27af50adbb1f86c584a112e"), looks := true }, kinds := [], alts := [], laidByText := true, laidKinds := [.data, .data, .data, .data, .sentinel, .sentinel, .pinned], laidTests := true, laidLooks := .later }
def FnLiteralsUptoCardSaid : Prop := Claim7.holds Tryz.pinned (.plain (OpenSpec.upto fnLiteralsSpec)) fnLiteralsUptoCard

/-- THE SECOND FORM's CARD OF 'laws.FnCnfTexts'. -/
def fnCnfTextsUptoCard : Claim7 := { stood := { row := fnCnfTextsUptoRow, standIns := [], harness := (true, "f84767aee95850eebc1e4daf961da4befc949325f27af50adbb1f86c584a112e"), looks := true }, kinds := [], alts := [], laidByText := true, laidKinds := [.data, .data, .data, .data, .sentinel, .sentinel, .pinned], laidTests := true, laidLooks := .later }
def FnCnfTextsUptoCardSaid : Prop := Claim7.holds Tryz.pinned (.plain (OpenSpec.upto fnCnfTextsSpec)) fnCnfTextsUptoCard
end Rows
end Go.Proofs.YtahbepajeplcmaaGreatDoor
