/- Contracts: rows of strings in the law. -/
import Derived.Test.YtcapiijpfoapkaaDoorBookD
namespace Go.Proofs.YtcapiijpfoapkaaDoor
open Go.RowKit

def stEnc (s : List UInt8) : List Value := [.string (ms s)]
def stOk (s : List UInt8) : Prop := s.length ≤ 9223372036854775807
abbrev stTy : Ty (List UInt8) := Ty.flat 1 stEnc stOk (fun _ => rfl)
theorem row_st {wr : Bool} {w : World} {v : Value} {xs : List (List UInt8)} {F : List Nat} (h : stTy.row wr w v xs F) :
    ∃ a cap, v = .slice a xs.length cap ∧ xs.length ≤ cap ∧ cap ≤ 9223372036854775807 ∧ (∀ x ∈ xs, stOk x) ∧
      ((xs = [] ∧ F = []) ∨ (xs ≠ [] ∧ ∃ b off, a = some ⟨b, off, none⟩ ∧ F = [b] ∧ ∀ j (hj : j < xs.length), cellIs wr w b (off + j) (.string (ms xs[j])))) := by
  obtain ⟨a, cap, rfl, h1, h2, h3, h4⟩ := row_flat h
  refine ⟨a, cap, rfl, h1, h2, h3, h4.imp id ?_⟩
  rintro ⟨_, hne, b, off, rfl, rfl, hc⟩
  exact ⟨hne, b, off, rfl, rfl, fun j hj => by have := hc j hj 0 _ rfl; rwa [Nat.mul_one, Nat.add_zero] at this⟩
theorem row_st_mk {wr : Bool} {w : World} {b off cap : Nat} {xs : List (List UInt8)} (hg : ∀ x ∈ xs, stOk x) (h1 : xs.length ≤ cap) (h2 : cap ≤ 9223372036854775807) (hne : xs ≠ [])
    (hc : ∀ j (hj : j < xs.length), cellIs wr w b (off + j) (.string (ms xs[j]))) : stTy.row wr w (.slice (some ⟨b, off, none⟩) xs.length cap) xs [b] := by
  refine row_flat_mk hg h1 h2 hne (by decide) fun j hj i u hu => ?_
  match i, hu with
  | 0, hu => cases hu; rw [Nat.mul_one, Nat.add_zero]; exact hc j hj
  | i + 1, hu => simp [stEnc] at hu

/- left out: the seat has no laws.eqStringS -/

/-- Strings with marks. -/
def markSt (m n : Nat) : List (List UInt8) := (List.range n).map fun j => markB (m + j)
theorem markSt_length (m n : Nat) : (markSt m n).length = n := by simp [markSt]
theorem markSt_get (m n j : Nat) (h : j < (markSt m n).length) : (markSt m n)[j] = markB (m + j) := by simp [markSt]
theorem markB_len (n : Nat) (h : n ≤ 1000000000000000000) : (markB n).length ≤ 21 := by have := digs_len n h; simp [markB]; omega
theorem markSt_ok {m n : Nat} (h : m + n ≤ 1000000000000000000) : ∀ x ∈ markSt m n, stOk x := by
  intro x hx
  simp only [markSt, List.mem_map, List.mem_range] at hx
  obtain ⟨j, hj, rfl⟩ := hx
  have h1 := markB_len (m + j) (by omega)
  unfold stOk; omega
def MarkRelS (b off m : Nat) (xs : List (List UInt8)) (k : Nat) (w wr : World) : Prop :=
  (∀ q, q < xs.length → cellIs true wr b (off + q) (.string (ms (if q < k then markB (m + q) else xs.getD q [])))) ∧ Chg [b] w wr
theorem MarkRelS.step {b off m : Nat} {xs : List (List UInt8)} {k : Nat} {w wr w1 : World} (h : MarkRelS b off m xs k w wr) (hb : Below wr.heap.size wr w1) :
    MarkRelS b off m xs (k + 1) w (w1.setCell ⟨b, off + k, none⟩ (.string (ms (markB (m + k))))) := by
  refine ⟨fun q hq => ?_, (h.2.then hb).set (by simp) _⟩
  have hc0 := h.1 q hq
  have hc := hc0.keep (hb.block b hc0.lt)
  by_cases e : q = k
  · subst e
    refine ⟨?_, fun _ => ?_⟩
    · rw [World.cell?_setCell_same' _ _ _ (by rw [hc.1]; rfl)]
      simp
    · rw [World.frozen?_setCell]; exact hc.2 rfl
  · refine ⟨?_, fun _ => ?_⟩
    · rw [World.cell?_setCell_other w1 _ _ _ (by simp only [ne_eq, Addr.mk.injEq]; omega), hc.1]
      by_cases h1 : q < k
      · rw [if_pos h1, if_pos (show q < k + 1 by omega)]
      · rw [if_neg h1, if_neg (show ¬ q < k + 1 by omega)]
    · rw [World.frozen?_setCell]; exact hc.2 rfl

/- left out: the seat has no laws.markStringS -/

/- left out: the seat has no laws.heldStringS -/
end Go.Proofs.YtcapiijpfoapkaaDoor
