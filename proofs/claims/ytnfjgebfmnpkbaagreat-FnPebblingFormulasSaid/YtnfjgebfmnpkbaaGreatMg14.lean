/- Lemmas and contracts for a law, put together out of several texts: OpenB OpenC. -/
import Derived.Test.YtnfjgebfmnpkbaaGreatMg2
import Derived.Test.YtnfjgebfmnpkbaaGreatMg1
import Derived.Test.YtnfjgebfmnpkbaaGreatMg3
/- Rows of bytes, read from the form's arguments. No program in sight. -/
namespace Go.Proofs.YtnfjgebfmnpkbaaGreat
open Go.RowKit Go.Deep

def U8 (n : Int) : Prop := 0 ≤ n ∧ n ≤ 255
def Ty.byte : Ty Int where
  size := 1
  rep _ _ cs n F := cs = [.int .u8 n] ∧ U8 n ∧ F = []
  len h := by obtain ⟨rfl, _, _⟩ := h; rfl
  lt h := by obtain ⟨_, _, rfl⟩ := h; simp
  keep h _ := h
  down h := h
theorem Opens.byte {P : Program} {t : TypeId} (ht : P.underlying t = some (.int .u8)) : Opens P t Ty.byte := by
  intro H enc w spare held fuel cs y h
  obtain ⟨n, rfl, _, hw⟩ := DataW.trod_int ht h
  have hb : 0 ≤ n ∧ n ≤ 255 := by
    simp [Lit.wf, IntKind.min, IntKind.max, IntKind.signed, IntKind.bits] at hw
    omega
  exact ⟨n, [], rfl, hb, rfl⟩
theorem Ty.all_byte_inv {wr : Bool} {w : World} : ∀ {cs : List Value} {xs : List Int} {F : List Nat}, Ty.byte.all wr w cs xs F → cs = xs.map (.int .u8) ∧ F = [] ∧ ∀ x ∈ xs, U8 x
  | _, [], _, h => ⟨h.1, h.2, by simp⟩
  | _, x :: xs, _, h => by
    obtain ⟨c, d, F1, F2, rfl, rfl, ⟨rfl, hx, rfl⟩, h2⟩ := h
    obtain ⟨rfl, rfl, h3⟩ := Ty.all_byte_inv h2
    exact ⟨rfl, rfl, fun y hy => by rcases List.mem_cons.1 hy with rfl | hy; exact hx; exact h3 y hy⟩
/-- A row of bytes: its slice and its cells. -/
theorem row_byte {wr : Bool} {w : World} {v : Value} {xs : List Int} {F : List Nat} (h : Ty.byte.row wr w v xs F) :
    ∃ a cap, v = .slice a xs.length cap ∧ ∀ j, j < xs.length → ∃ cb off x, a = some ⟨cb, off, none⟩ ∧ w.cell? ⟨cb, off + j, none⟩ = some (.int .u8 x) ∧ 0 ≤ x ∧ x ≤ 255 := by
  obtain ⟨a, cap, cs, G, rfl, h1, h2, hall, h⟩ := h
  obtain ⟨rfl, rfl, hi⟩ := Ty.all_byte_inv hall
  refine ⟨a, cap, rfl, fun j hj => ?_⟩
  rcases h with ⟨rfl, _⟩ | ⟨_, hne, b, off, rfl, rfl, hc⟩
  · simp at hj
  · have := hc j (by simpa using hj)
    have hx := hi xs[j] (List.getElem_mem hj)
    exact ⟨b, off, xs[j], rfl, by have h3 := this.1; simpa using h3, hx.1, hx.2⟩
end Go.Proofs.YtnfjgebfmnpkbaaGreat

/- A row of bytes as the cursor's code. -/
namespace Go.Proofs.YtnfjgebfmnpkbaaGreat
open Go.RowKit

theorem codeOk {wr : Bool} {w : World} {a : Option Addr} {n c : Nat} {xs : List Int} {F : List Nat} (h : Ty.byte.row wr w (.slice a n c) xs F) : CodeOk w a n := by
  obtain ⟨a', c', e, hh⟩ := row_byte h
  simp only [Value.slice.injEq] at e
  obtain ⟨rfl, rfl, rfl⟩ := e
  exact hh
end Go.Proofs.YtnfjgebfmnpkbaaGreat
