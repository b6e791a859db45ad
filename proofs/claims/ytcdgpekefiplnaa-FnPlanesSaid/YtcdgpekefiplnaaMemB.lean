/- Contracts: rows of ints in the laws: compared, marked, held, copied. -/
import Derived.Test.YtcdgpekefiplnaaMemA
import Derived.Test.YtcdgpekefiplnaaProg
import Derived.WalkLawsBesides
import Derived.WalkSpells
namespace Go.Proofs.Ytcdgpekefiplnaa
open Go.RowKit

/- left out: the seat has no laws.eqIntS -/

/-- What has been marked so far. -/
def MarkRel (b off : Nat) (m : Int) (xs : List Int) (k : Nat) (w wr : World) : Prop :=
  (∀ j (hj : j < xs.length), cellIs true wr b (off + j) (.int .i64 (if j < k then m + j else xs[j]))) ∧ Chg [b] w wr
theorem MarkRel.step {b off : Nat} {m : Int} {xs : List Int} {k : Nat} {w wr : World} (h : MarkRel b off m xs k w wr) (hk : k < xs.length) : MarkRel b off m xs (k + 1) w (wr.setCell ⟨b, off + k, none⟩ (.int .i64 (m + k))) := by
  refine ⟨fun j hj => ?_, h.2.set (by simp) _⟩
  have hc := h.1 j hj
  by_cases e : j = k
  · subst e
    refine ⟨?_, fun _ => ?_⟩
    · rw [if_pos (by omega)]; exact World.cell?_setCell_same' _ _ _ (by rw [hc.1]; rfl)
    · rw [World.frozen?_setCell]; exact hc.2 rfl
  · refine ⟨?_, fun _ => ?_⟩
    · rw [World.cell?_setCell_other wr _ _ _ (by simp only [ne_eq, Addr.mk.injEq]; omega)]
      rw [hc.1]
      by_cases h1 : j < k
      · rw [if_pos h1, if_pos (by omega)]
      · rw [if_neg h1, if_neg (by omega)]
    · rw [World.frozen?_setCell]; exact hc.2 rfl

def MarkPost {α : Type} (T : Ty α) (w : World) (v : Value) (k : Int) (ys : List α) (F : List Nat) (e : Ending) (w' : World) : Prop :=
  e = .returned (.int .i64 k) ∧ T.row true w' v ys F ∧ Chg F w w'

/- left out: the seat has no laws.markIntS -/

/-- What 'held' gives: past the last mark, or -1. -/
def heldOf (xs : List Int) (m : Int) : Int := if xs = marks m xs.length then m + xs.length else -1
theorem marks_snoc (m : Int) (n : Nat) : marks m (n + 1) = marks m n ++ [m + n] := by simp [marks, List.range_succ]

/- left out: the seat has no laws.heldIntS -/

/-- What 'to' gives: a row of its own with the same data. -/
def OwnPost {α : Type} (T : Ty α) (w : World) (xs : List α) (e : Ending) (w' : World) : Prop :=
  ∃ v F, e = .returned v ∧ T.row true w' v xs F ∧ F.Nodup ∧ (∀ b ∈ F, w.heap.size ≤ b) ∧ Below w.heap.size w w'

theorem infoInt : (Try.prog.info? 3).map (fun i => (i.zero, i.size, i.bytes)) = some (some (.int .i64 0), 1, 8) := by kernel_rfl

/-- What has been copied so far. -/
def CopyRel (xs : List Int) (k : Nat) (w wr : World) : Prop :=
  (∀ j (hj : j < xs.length), cellIs true wr w.heap.size (0 + j) (.int .i64 (if j < k then xs[j] else 0))) ∧ Below w.heap.size w wr
theorem CopyRel.step {xs : List Int} {k : Nat} {w wr : World} (h : CopyRel xs k w wr) (hk : k < xs.length) : CopyRel xs (k + 1) w (wr.setCell ⟨w.heap.size, k, none⟩ (.int .i64 xs[k])) := by
  refine ⟨fun j hj => ?_, h.2.setCell (by simp) _⟩
  have hc := h.1 j hj
  by_cases e : j = k
  · subst e
    refine ⟨?_, fun _ => ?_⟩
    · rw [if_pos (by omega), Nat.zero_add]; exact World.cell?_setCell_same' _ _ _ (by have := hc.1; rw [Nat.zero_add] at this; rw [this]; rfl)
    · rw [World.frozen?_setCell]; exact hc.2 rfl
  · refine ⟨?_, fun _ => ?_⟩
    · rw [World.cell?_setCell_other wr _ _ _ (by simp only [ne_eq, Addr.mk.injEq]; omega)]
      rw [hc.1]
      by_cases h1 : j < k
      · rw [if_pos h1, if_pos (by omega)]
      · rw [if_neg h1, if_neg (by omega)]
    · rw [World.frozen?_setCell]; exact hc.2 rfl

theorem hown_cell {w : World} {g n : Nat} {cur : Array Value} {e : TypeId} {fr : Nat × Nat} {cs : List Value} (hh : w.heap[g]? = some (.cells cur e fr)) (ht : cur.toList.take n = cs) {j : Nat} (hj : j < n) : w.cell? ⟨g, j, none⟩ = cs[j]? := by
  subst ht
  simp [World.cell?, hh, hj]

/- left out: the seat has no laws.toIntS -/
end Go.Proofs.Ytcdgpekefiplnaa
