/- Lemmas and contracts for a law, put together out of several texts: OpenC. -/
import Derived.Test.YtbemodacpimiiaaGreatMg13
import Derived.Test.YtbemodacpimiiaaGreatMg6
/- A row of bytes as the cursor's code. -/
namespace Go.Proofs.YtbemodacpimiiaaGreat
open Go.RowKit

theorem codeOk {wr : Bool} {w : World} {a : Option Addr} {n c : Nat} {xs : List Int} {F : List Nat} (h : Ty.byte.row wr w (.slice a n c) xs F) : CodeOk w a n := by
  obtain ⟨a', c', e, hh⟩ := row_byte h
  simp only [Value.slice.injEq] at e
  obtain ⟨rfl, rfl, rfl⟩ := e
  exact hh
end Go.Proofs.YtbemodacpimiiaaGreat
