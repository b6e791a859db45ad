/- Memory facts: rows of flat elements that are made and then filled, element by element. No program in sight. -/
import Derived.Test.YtgcdifabbaoomaaMemF
import Derived.OwnWalk
import Derived.Laws.OwnMore
namespace Go.Proofs.Ytgcdifabbaoomaa
open Go.RowKit

/-- The elements f 0, f 1, .. lie in block B, one behind the other, and may be written. -/
def FlatAt {α : Type} (enc : α → List Value) (n B len : Nat) (f : Nat → α) (w : World) : Prop := ∀ j, j < len → ∀ (i : Nat) (u : Value), (enc (f j))[i]? = some u → cellIs true w B (j * n + i) u

section
variable {α : Type} {enc : α → List Value} {n B len : Nat} {f : Nat → α} {w w' : World}
theorem FlatAt.grow (h : FlatAt enc n B len f w) (hb : Below w.heap.size w w') : FlatAt enc n B len f w' := fun j hj i u hu =>
  (h j hj i u hu).keep (hb.block B (h j hj i u hu).lt)
theorem FlatAt.mono {len' : Nat} {g : Nat → α} (h : FlatAt enc n B len f w) (hl : len' ≤ len) (hg : ∀ j, j < len' → g j = f j) : FlatAt enc n B len' g w := fun j hj i u hu =>
  h j (by omega) i u (by rw [← hg j hj]; exact hu)
theorem FlatAt.cell (h : FlatAt enc n B len f w) {j : Nat} (hj : j < len) {i : Nat} {u : Value} (hu : (enc (f j))[i]? = some u) : w.cell? ⟨B, j * n + i, none⟩ = some u := (h j hj i u hu).1
theorem FlatAt.frozen (h : FlatAt enc n B len f w) {j : Nat} (hj : j < len) {i : Nat} {u : Value} (hu : (enc (f j))[i]? = some u) : w.frozen? ⟨B, j * n + i, none⟩ = false := (h j hj i u hu).2 rfl
/-- Behind make: every element is the zero value. -/
theorem FlatAt.made {base : Nat} {e : TypeId} {cap : Nat} {z : α} {zc : Array Value} (hz : enc z = zc.toList) (hn : zc.size = n) (h : w.ownsRow base e n (.slice (some ⟨B, 0, none⟩) len cap) len (madeCells zc (len * n)).toList) : FlatAt enc n B len (fun _ => z) w := by
  intro j hj i u hu
  have hi : i < n := by
    have := (List.getElem?_eq_some_iff.1 hu).1
    rw [hz, Array.length_toList, hn] at this
    exact this
  have hlt : j * n + i < len * n := by
    have : (j + 1) * n ≤ len * n := Nat.mul_le_mul_right n hj
    rw [Nat.add_mul] at this; omega
  refine ⟨?_, fun _ => h.frozenAt _⟩
  rw [h.cellAt _ hlt, Array.getElem?_toList]
  have hm : (j * n + i) % n = i := by rw [Nat.mul_comm, Nat.mul_add_mod, Nat.mod_eq_of_lt hi]
  rw [hz, Array.getElem?_toList] at hu
  unfold madeCells
  rw [Array.getElem?_map, Array.getElem?_range, if_pos hlt]
  simp only [Option.map_some, hn, hm]
  rw [getElem!_def, hu]
/-- The finished row. -/
theorem FlatAt.row {good : α → Prop} {hne : ∀ x, (enc x).length = n} {xs : List α} {z : α} {cap : Nat} (h : FlatAt enc n B xs.length (fun j => xs.getD j z) w) (hg : ∀ x ∈ xs, good x) (h1 : xs.length ≤ cap) (h2 : cap ≤ 9223372036854775807) (hx : xs ≠ []) (h0 : 0 < n) :
    (Ty.flat n enc good hne).row true w (.slice (some ⟨B, 0, none⟩) xs.length cap) xs [B] := by
  refine row_flat_mk hg h1 h2 hx h0 fun j hj i u hu => ?_
  rw [Nat.zero_add]
  refine h j hj i u ?_
  show (enc (xs.getD j z))[i]? = some u
  rw [List.getD_eq_getElem?_getD, List.getElem?_eq_getElem hj]
  exact hu
theorem set_ne' (w : World) {b o o' : Nat} {u : Value} (h : o ≠ o') : (w.setCell ⟨b, o, none⟩ u).cell? ⟨b, o', none⟩ = w.cell? ⟨b, o', none⟩ := World.cell?_setCell_other w _ _ _ (by simp only [ne_eq, Addr.mk.injEq]; omega)
theorem set_eq' (w : World) {b o : Nat} {u v : Value} (h : w.cell? ⟨b, o, none⟩ = some v) : (w.setCell ⟨b, o, none⟩ u).cell? ⟨b, o, none⟩ = some u := World.cell?_setCell_same' _ _ _ (by rw [h]; rfl)
/-- An element of one cell is stored. -/
theorem FlatAt.set1 {f : Nat → α} (hn : ∀ x, (enc x).length = 1) (h : FlatAt enc 1 B len f w) {k : Nat} {x : α} {u0 : Value} (he : enc x = [u0]) :
    FlatAt enc 1 B len (fun j => if j = k then x else f j) (w.setCell ⟨B, k, none⟩ u0) := by
  intro j hj i u hu
  have hi : i < 1 := by have := (List.getElem?_eq_some_iff.1 hu).1; rwa [hn] at this
  obtain rfl : i = 0 := by omega
  have hold : ∃ v, (enc (f j))[0]? = some v := ⟨_, List.getElem?_eq_getElem (by rw [hn]; decide)⟩
  obtain ⟨v, hv⟩ := hold
  have hc := h j hj 0 v hv
  refine ⟨?_, fun _ => by rw [World.frozen?_setCell]; exact hc.2 rfl⟩
  by_cases e : j = k
  · subst e
    simp only [if_true, he] at hu
    simp at hu; subst hu
    have := hc.1
    rw [Nat.mul_one, Nat.add_zero] at this ⊢
    exact set_eq' w this
  · simp only [if_neg e] at hu
    rw [set_ne' w (by omega)]
    rw [hv] at hu; cases hu
    exact hc.1
/-- An element of two cells is stored. -/
theorem FlatAt.set2 {f : Nat → α} (hn : ∀ x, (enc x).length = 2) (h : FlatAt enc 2 B len f w) {k : Nat} {x : α} {u0 u1 : Value} (he : enc x = [u0, u1]) :
    FlatAt enc 2 B len (fun j => if j = k then x else f j) ((w.setCell ⟨B, k * 2, none⟩ u0).setCell ⟨B, k * 2 + 1, none⟩ u1) := by
  intro j hj i u hu
  have hi : i < 2 := by have := (List.getElem?_eq_some_iff.1 hu).1; rwa [hn] at this
  obtain ⟨v, hv⟩ : ∃ v, (enc (f j))[i]? = some v := ⟨_, List.getElem?_eq_getElem (by rw [hn]; exact hi)⟩
  have hc := h j hj i v hv
  refine ⟨?_, fun _ => by rw [World.frozen?_setCell, World.frozen?_setCell]; exact hc.2 rfl⟩
  by_cases e : j = k
  · subst e
    simp only [if_true, he] at hu
    match i, hi, hu with
    | 0, _, hu =>
      simp at hu; subst hu
      rw [set_ne' _ (by omega)]
      exact set_eq' w hc.1
    | 1, _, hu =>
      simp at hu; subst hu
      exact set_eq' _ ((set_ne' w (by omega)).trans hc.1)
  · simp only [if_neg e] at hu
    rw [set_ne' _ (by omega), set_ne' w (by omega)]
    rw [hv] at hu; cases hu
    exact hc.1
/-- An element of four cells is stored. -/
theorem FlatAt.set4 {f : Nat → α} (hn : ∀ x, (enc x).length = 4) (h : FlatAt enc 4 B len f w) {k : Nat} {x : α} {u0 u1 u2 u3 : Value} (he : enc x = [u0, u1, u2, u3]) :
    FlatAt enc 4 B len (fun j => if j = k then x else f j) ((((w.setCell ⟨B, k * 4, none⟩ u0).setCell ⟨B, k * 4 + 1, none⟩ u1).setCell ⟨B, k * 4 + 2, none⟩ u2).setCell ⟨B, k * 4 + 3, none⟩ u3) := by
  intro j hj i u hu
  have hi : i < 4 := by have := (List.getElem?_eq_some_iff.1 hu).1; rwa [hn] at this
  obtain ⟨v, hv⟩ : ∃ v, (enc (f j))[i]? = some v := ⟨_, List.getElem?_eq_getElem (by rw [hn]; exact hi)⟩
  have hc := h j hj i v hv
  refine ⟨?_, fun _ => by rw [World.frozen?_setCell, World.frozen?_setCell, World.frozen?_setCell, World.frozen?_setCell]; exact hc.2 rfl⟩
  by_cases e : j = k
  · subst e
    simp only [if_true, he] at hu
    match i, hi, hu with
    | 0, _, hu =>
      simp at hu; subst hu
      rw [set_ne' _ (by omega), set_ne' _ (by omega), set_ne' _ (by omega)]
      exact set_eq' w hc.1
    | 1, _, hu =>
      simp at hu; subst hu
      rw [set_ne' _ (by omega), set_ne' _ (by omega)]
      exact set_eq' _ ((set_ne' w (by omega)).trans hc.1)
    | 2, _, hu =>
      simp at hu; subst hu
      rw [set_ne' _ (by omega)]
      exact set_eq' _ ((set_ne' _ (by omega)).trans ((set_ne' w (by omega)).trans hc.1))
    | 3, _, hu =>
      simp at hu; subst hu
      exact set_eq' _ ((set_ne' _ (by omega)).trans ((set_ne' _ (by omega)).trans ((set_ne' w (by omega)).trans hc.1)))
  · simp only [if_neg e] at hu
    rw [set_ne' _ (by omega), set_ne' _ (by omega), set_ne' _ (by omega), set_ne' w (by omega)]
    rw [hv] at hu; cases hu
    exact hc.1
end

/-- What has been copied so far: the first k elements, zeros behind. -/
def filled {α : Type} (xs : List α) (z : α) (k : Nat) (j : Nat) : α := if j < k then xs.getD j z else z
theorem filled_zero {α : Type} (xs : List α) (z : α) : filled xs z 0 = fun _ => z := by funext j; simp [filled]
theorem filled_succ {α : Type} (xs : List α) (z : α) (k : Nat) (hk : k < xs.length) : filled xs z (k + 1) = fun j => if j = k then xs[k] else filled xs z k j := by
  funext j
  unfold filled
  by_cases e : j = k
  · subst e
    rw [if_pos (by omega), if_pos rfl, List.getD_eq_getElem?_getD, List.getElem?_eq_getElem hk]; rfl
  · rw [if_neg e]
    by_cases h : j < k
    · rw [if_pos (by omega), if_pos h]
    · rw [if_neg (by omega), if_neg h]
theorem FlatAt.done {α : Type} {enc : α → List Value} {n B : Nat} {w : World} {xs : List α} {z : α} (h : FlatAt enc n B xs.length (filled xs z xs.length) w) : FlatAt enc n B xs.length (fun j => xs.getD j z) w :=
  h.mono (Nat.le_refl _) fun j hj => by unfold filled; rw [if_pos hj]
end Go.Proofs.Ytgcdifabbaoomaa
