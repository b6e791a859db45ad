/-
  DERIVED. GIVEN WITH THE SEED: THE CARDS: each row of YtahbepajeplcmaaDoorRows.lean that lists a variable, with what it lists TIED to the program's text (the seventh form; the later family's looks); each row that meets fmt, with fmt's text TOLD by the authors' own Lean function (tested against real Go, not proved from fmt's source: count such statements apart). THE CARD IS WHAT COUNTS. Prove the row's statement (the work); the ties are given (YtahbepajeplcmaaDoorTie.lean); close each card by the builder's one call (the guide's Derived/Test/ToyasCard.lean, 'card_holds'). Laid BY PROGRAM, IN A SANDBOX (cutbox-door.mjs). By AI agents, Wed Nov 11 2026. No macro, syntax, notation, axiom, sorry.
-/
import Derived.Test.YtahbepajeplcmaaDoorRows
import GoSem.ClaimSeven
namespace Go.Proofs.YtahbepajeplcmaaDoor
namespace Rows

/-- THE TIED CARD OF 'laws.FnExactMergeBooks'. -/
def fnExactMergeBooksCard : Claim7 := { stood := { row := fnExactMergeBooksRow, standIns := [], harness := (true, "b2a2c8672199fed5b67db158496542ccdaa019620cfa894670d2dca19fd80659"), looks := true }, kinds := [], alts := [], laidByText := true, laidKinds := [.sentinel], laidTests := true, laidLooks := .later }
def FnExactMergeBooksCardSaid : Prop := Claim7.holds Tryd.pinned (.plain (OpenSpec.ofChange fnExactMergeBooksSpec)) fnExactMergeBooksCard

/-- THE TIED CARD OF 'laws.FnExactParseBook'. -/
def fnExactParseBookCard : Claim7 := { stood := { row := fnExactParseBookRow, standIns := [], harness := (true, "b2a2c8672199fed5b67db158496542ccdaa019620cfa894670d2dca19fd80659"), looks := true }, kinds := [], alts := [], laidByText := true, laidKinds := [.data, .data, .data, .data, .sentinel, .sentinel, .pinned], laidTests := true, laidLooks := .later }
def FnExactParseBookCardSaid : Prop := Claim7.holds Tryd.pinned (.plain (OpenSpec.ofChange fnExactParseBookSpec)) fnExactParseBookCard

/-- THE SECOND FORM's CARD OF 'laws.FnExactMergeBooks'. -/
def fnExactMergeBooksUptoCard : Claim7 := { stood := { row := fnExactMergeBooksUptoRow, standIns := [], harness := (true, "b2a2c8672199fed5b67db158496542ccdaa019620cfa894670d2dca19fd80659"), looks := true }, kinds := [], alts := [], laidByText := true, laidKinds := [.sentinel], laidTests := true, laidLooks := .later }
def FnExactMergeBooksUptoCardSaid : Prop := Claim7.holds Tryd.pinned (.plain (OpenSpec.upto fnExactMergeBooksSpec)) fnExactMergeBooksUptoCard

/-- THE SECOND FORM's CARD OF 'laws.FnExactParseBook'. -/
def fnExactParseBookUptoCard : Claim7 := { stood := { row := fnExactParseBookUptoRow, standIns := [], harness := (true, "b2a2c8672199fed5b67db158496542ccdaa019620cfa894670d2dca19fd80659"), looks := true }, kinds := [], alts := [], laidByText := true, laidKinds := [.data, .data, .data, .data, .sentinel, .sentinel, .pinned], laidTests := true, laidLooks := .later }
def FnExactParseBookUptoCardSaid : Prop := Claim7.holds Tryd.pinned (.plain (OpenSpec.upto fnExactParseBookSpec)) fnExactParseBookUptoCard
end Rows
end Go.Proofs.YtahbepajeplcmaaDoor
