/- Memory facts: rows of rows. No program in sight. -/
import Derived.Test.YtcdgpekefiplnaaMemF
namespace Go.Proofs.Ytcdgpekefiplnaa
open Go.RowKit

/-- A row of rows: the header of each element, and its own row. -/
theorem row_slices {α : Type} {T : Ty α} {wr : Bool} {w : World} {v : Value} {xss : List (List α)} {F : List Nat} (h : (Ty.slice T).row wr w v xss F) :
    ∃ a cap, v = .slice a xss.length cap ∧ xss.length ≤ cap ∧ cap ≤ 9223372036854775807 ∧ ((xss = [] ∧ F = []) ∨ (xss ≠ [] ∧ ∃ b off, a = some ⟨b, off, none⟩ ∧ b ∈ F ∧ ∀ k (hk : k < xss.length), ∃ u Fk, cellIs wr w b (off + k) u ∧ T.row wr w u xss[k] Fk ∧ ∀ x ∈ Fk, x ∈ F)) := by
  obtain ⟨a, cap, cs, G, rfl, h1, h2, hall, h⟩ := h
  refine ⟨a, cap, rfl, h1, h2, h.imp id ?_⟩
  rintro ⟨_, hne, b, off, rfl, rfl, hc⟩
  refine ⟨hne, b, off, rfl, List.mem_cons_self, fun k hk => ?_⟩
  obtain ⟨c, d, e, F1, F2, F3, rfl, rfl, hl, _, ⟨u, rfl, hu⟩, _⟩ := Ty.all_split hall k hk
  have hl' : c.length = k := by rw [hl]; show k * 1 = k; omega
  refine ⟨u, F2, ?_, hu, fun x hx => by simp [hx]⟩
  have := hc k (by simp; omega)
  rw [List.getElem_append_left (by simp; omega), List.getElem_append_right (by omega)] at this
  simpa [hl'] using this

/-- What a copying loop over rows has made so far. -/
def CopyAll {α : Type} (T : Ty α) (xss : List (List α)) (k : Nat) (w wr : World) : Prop :=
  ∃ (cs : List Value) (G : List Nat), (Ty.slice T).all true wr cs (xss.take k) G ∧ G.Nodup ∧ (∀ b ∈ G, w.heap.size < b) ∧
    (∀ j, j < xss.length → ∃ a n c, wr.cell? ⟨w.heap.size, j, none⟩ = some (.slice a n c) ∧ wr.frozen? ⟨w.heap.size, j, none⟩ = false ∧ (j < k → cs[j]? = some (.slice a n c))) ∧ Below w.heap.size w wr ∧ w.heap.size < wr.heap.size
theorem CopyAll.step {α : Type} {T : Ty α} {xss : List (List α)} {k : Nat} {w wr w1 : World} {a : Option Addr} {n c : Nat} {F : List Nat} (h : CopyAll T xss k w wr) (hk : k < xss.length)
    (hr : T.row true w1 (.slice a n c) xss[k] F) (hn : F.Nodup) (hF : ∀ b ∈ F, wr.heap.size ≤ b) (hb : Below wr.heap.size wr w1) : CopyAll T xss (k + 1) w (w1.setCell ⟨w.heap.size, k, none⟩ (.slice a n c)) := by
  obtain ⟨cs, G, hall, hG, hGb, hc, hB, hs⟩ := h
  have hlen : cs.length = k := by rw [Ty.all_len hall, List.length_take]; show min k xss.length * 1 = k; omega
  have hkeep : ∀ b, w.heap.size < b → (w1.setCell ⟨w.heap.size, k, none⟩ (.slice a n c)).heap[b]? = w1.heap[b]? := fun b hb => Below.heap_setCell _ _ _ _ (by simp; omega)
  have hall1 := Ty.all_keep (w' := w1) hall (fun b hb' => hb.block b (Ty.all_lt hall b hb'))
  have hall2 := Ty.all_keep (w' := w1.setCell ⟨w.heap.size, k, none⟩ (.slice a n c)) hall1 (fun b hb' => hkeep b (hGb b hb'))
  have hr2 := Ty.row_keep (w' := w1.setCell ⟨w.heap.size, k, none⟩ (.slice a n c)) hr (fun b hb' => hkeep b (Nat.lt_of_lt_of_le hs (hF b hb')))
  refine ⟨cs ++ [.slice a n c], G ++ F, ?_, ?_, ?_, ?_, ?_, ?_⟩
  · rw [List.take_succ_eq_append_getElem hk]
    exact Ty.all_snoc hall2 ⟨_, rfl, hr2⟩
  · refine List.nodup_append.2 ⟨hG, hn, fun x hx y hy e => ?_⟩
    have h1 := Ty.all_lt hall x hx
    have h2 := hF y hy
    omega
  · intro b hb'
    rcases List.mem_append.1 hb' with hb' | hb'
    · exact hGb b hb'
    · have := hF b hb'; omega
  · intro j hj
    obtain ⟨a', n', c', h1, h2, h3⟩ := hc j hj
    have h1' := ((bcell hb).1 _ j hs).trans h1
    have h2' := ((bcell hb).2 _ j hs).trans h2
    by_cases e : j = k
    · subst e
      exact ⟨a, n, c, World.cell?_setCell_same' _ _ _ (by rw [h1']; rfl), by rw [World.frozen?_setCell]; exact h2', fun _ => by rw [List.getElem?_append_right (by omega)]; simp [hlen]⟩
    · refine ⟨a', n', c', by rw [World.cell?_setCell_other w1 _ _ _ (by simp only [ne_eq, Addr.mk.injEq]; omega)]; exact h1', by rw [World.frozen?_setCell]; exact h2', fun hlt => ?_⟩
      rw [List.getElem?_append_left (by omega)]
      exact h3 (by omega)
  · exact bst (btr hB hb) (Nat.le_refl _) _
  · simp only [World.setCell, Array.size_modify]; exact Nat.lt_of_lt_of_le hs hb.size
/-- The copy of a row of rows. -/
theorem CopyAll.done {α : Type} {T : Ty α} {xss : List (List α)} {w wr : World} (h : CopyAll T xss xss.length w wr) (hm : xss.length ≤ 9223372036854775807) :
    ∃ F, (Ty.slice T).row true wr (.slice (some ⟨w.heap.size, 0, none⟩) xss.length xss.length) xss F ∧ F.Nodup ∧ (∀ b ∈ F, w.heap.size ≤ b) := by
  obtain ⟨cs, G, hall, hG, hGb, hc, hB, hs⟩ := h
  rw [List.take_length] at hall
  have hlen : cs.length = xss.length := by rw [Ty.all_len hall]; show xss.length * 1 = xss.length; omega
  by_cases hne : xss = []
  · subst hne
    exact ⟨[], Ty.row_nil _ _ _ _ _ (by simp), by simp, by simp⟩
  · refine ⟨w.heap.size :: G, ⟨_, _, cs, G, rfl, Nat.le_refl _, hm, hall, .inr ⟨Nat.zero_lt_one, hne, w.heap.size, 0, rfl, rfl, fun j hj => ?_⟩⟩, List.nodup_cons.2 ⟨fun h => by have := hGb _ h; omega, hG⟩, ?_⟩
    · obtain ⟨a, n, c, h1, h2, h3⟩ := hc j (by omega)
      have h4 := h3 (by omega)
      rw [List.getElem?_eq_getElem hj] at h4
      rw [Option.some.inj h4, Nat.zero_add]
      exact ⟨h1, fun _ => h2⟩
    · intro b hb
      rcases List.mem_cons.1 hb with rfl | hb
      · exact Nat.le_refl _
      · exact Nat.le_of_lt (hGb b hb)

/-- How many numbers, each row counted once more. -/
def bulk (xss : List (List Int)) : Nat := xss.length + (xss.map List.length).sum
end Go.Proofs.Ytcdgpekefiplnaa
