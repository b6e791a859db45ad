/- Contracts: the restricted Cnf in the reference. -/
import Derived.Test.YtkgfgheiabapoaaClK
namespace Go.Proofs.Ytkgfgheiabapoaa
open Go.RowKit Go.Shelf

theorem l3Value_at {v u : Value} {c a : List Int} {F G : List Nat} {w : World} {z : Int} (hx : Ty.int.row false w v c F) (hy : Ty.int.row false w u a G) (h : valB c a = z) :
    Calls Try.prog 147 #[v, u] w fun e w' => e = .returned (.int .i64 z) ∧ w = w' := h ▸ l3Value_any v u c a F G w hx hy
theorem kind_ne2 {w : World} {b b' : Nat} (h : Kind w 68 b) (h' : Kind w 3 b') : b ≠ b' := by
  rintro rfl
  obtain ⟨c, fz, h⟩ := h
  obtain ⟨c', fz', h'⟩ := h'
  rw [h] at h'
  simp at h'
theorem kind_ne3 {w : World} {b b' : Nat} (h : Kind w 68 b) (h' : Kind w 22 b') : b ≠ b' := by
  rintro rfl
  obtain ⟨c, fz, h⟩ := h
  obtain ⟨c', fz', h'⟩ := h'
  rw [h] at h'
  simp at h'
/-- A store into a block of another kind. -/
theorem RowsRel.set {cs : List Value} {yss : List (List Int)} {w wr : World} {v : Value} (h : RowsRel cs yss w wr v) {b o : Nat} (hk : Kind wr 68 b) (hb : w.heap.size ≤ b) (u : Value) : RowsRel cs yss w (wr.setCell ⟨b, o, none⟩ u) v := by
  obtain ⟨G, hall, hG, hGb, ho, hB⟩ := h
  have hkeep : ∀ x ∈ G, (wr.setCell ⟨b, o, none⟩ u).heap[x]? = wr.heap[x]? := fun x hx => Below.heap_setCell _ _ _ _ (fun e => kind_ne2 hk (hGb x hx).2 e.symm)
  refine ⟨G, Ty.all_keep hall hkeep, hG, fun x hx => ⟨(hGb x hx).1, ?_⟩, ownsRow_setCell_other ho (fun e => kind_ne3 hk (Lib.ownsRow_kind ho b e) rfl) u, hB.setCell hb u⟩
  obtain ⟨c, fz, h⟩ := (hGb x hx).2
  exact ⟨c, fz, (hkeep x hx).trans h⟩
end Go.Proofs.Ytkgfgheiabapoaa
