/- Contracts: cloning, and what an assignment leaves of a clause, in the program. -/
import Derived.Test.YtkgfgheiabapoaaClF
namespace Go.Proofs.Ytkgfgheiabapoaa
open Go.RowKit Go.Shelf

/-- What Clone gives: nil or a row of its own. -/
def ClonePost (w : World) (c : List Int) (e : Ending) (w' : World) : Prop :=
  Below w.heap.size w w' ∧ ((c = [] ∧ e = .returned (.slice none 0 0)) ∨ ∃ g cap, e = .returned (.slice (some ⟨g, 0, none⟩) c.length cap) ∧ w.heap.size ≤ g ∧ g < w'.heap.size ∧ c.length ≤ cap ∧ cap ≤ 9223372036854775807 ∧ ∀ j (hj : j < c.length), cellIs true w' g (0 + j) (.int .i64 c[j])) ∧ (∀ g a n cap, e = .returned (.slice (some ⟨g, a, none⟩) n cap) → Kind w' 3 g)

theorem clone_owns {w w' : World} {c : List Int} {v : Value} (hI : ∀ x ∈ c, I64 x) (h : w'.ownsRow w.heap.size 3 1 v c.length (c.map (Value.int .i64))) (hv : v ≠ .slice none 0 0) (hb : Below w.heap.size w w') : ClonePost w c (.returned v) w' := by
  have hk := Lib.ownsRow_kind h
  refine ⟨hb, .inr ?_, fun g a n cap e => hk g (by cases e; rfl)⟩
  obtain ⟨hl, ⟨e, _⟩ | ⟨g, cap, cur, rfl, hg, hh, hn, hm, hcs, ht⟩⟩ := id h
  · exact absurd e hv
  · have hlt : g < w'.heap.size := by
      rcases Nat.lt_or_ge g w'.heap.size with h | h
      · exact h
      · simp [Array.getElem?_eq_none h] at hh
    refine ⟨g, cap, rfl, hg, hlt, hn, by unfold maxLen at hm; omega, fun j hj => ⟨?_, fun _ => by simp [World.frozen?, hh]⟩⟩
    rw [Nat.zero_add]
    have := h.cellAt j (by simpa using hj)
    simpa [hj] using this

theorem cloneInt_any (v : Value) (c : List Int) (F : List Nat) (w : World) (hx : Ty.int.row false w v c F) (hc : c.length ≤ 10000000000) :
    Calls Try.prog 137 #[v] w (ClonePost w c) := by
  by_cases hne : c = []
  · subst hne
    obtain ⟨a, cap, rfl, h1, h2⟩ := Ty.row_len hx
    cases a with
    | none => exact (Try.slices_Clone_int_nil 0 cap w).mono fun e w' ⟨h1, h2⟩ => ⟨h2 ▸ bb _, .inl ⟨rfl, h1⟩, fun g a n cap e => by rw [h1] at e; cases e⟩
    | some a => exact (Try.slices_Clone_int_zero a cap w).mono fun e w' ⟨v', h1, h2, h3, h4⟩ => h1 ▸ clone_owns (by simp) h2 h3 h4
  · obtain ⟨b, off, cap, rfl, _, h1, h2, hcell⟩ := row_cells hx hne
    obtain ⟨_, _, _, _, _, hI, _⟩ := row_int hx
    refine (Try.slices_Clone_int b off c.length cap c w (Nat.le_refl _) (by omega) hcell).mono fun e w' ⟨v', h1, h2, h3, h4⟩ => ?_
    rw [List.take_length] at h2
    exact h1 ▸ clone_owns hI h2 h3 h4

set_option maxRecDepth 100000 in
set_option maxHeartbeats 1000000 in
theorem openPart_any (v u : Value) (c a : List Int) (F G : List Nat) (w : World) (hx : Ty.int.row false w v c F) (hy : Ty.int.row false w u a G) (hc : c.length ≤ 10000000000) :
    Calls Try.prog 151 #[v, u] w (OwnPostK Ty.int 3 w (leftB c a)) := by
  obtain ⟨va, vc, rfl, _, _, hI, _⟩ := row_int hx
  obtain ⟨ua, uc, rfl, _, _⟩ := Ty.row_len hy
  have hb0 : Below w.heap.size w (w.alloc (.cells #[.slice ua a.length uc] 22)) := bal (bb _) _
  have hx0 := Ty.row_grow hx hb0
  have hy0 := Ty.row_grow hy hb0
  have hGlt := Ty.row_lt hy
  go_enter Try.func151, Try.ntmps151
  go_wp2_with fail
  with_reducible refine (cloneInt_any _ _ _ _ hx0 hc).mono ?_
  rintro e w1 ⟨hb1, ⟨rfl, rfl⟩ | ⟨g, cap, rfl, hg, hg1, hc1, hc2, hcells⟩, hki⟩
  · go_wp2_with (go_at_call 173; (with_reducible refine (deleteNil 0 _ _).mono ?_); rintro e w2 ⟨rfl, rfl⟩)
    go_ret
    exact ⟨_, [], rfl, Ty.row_nil _ _ _ _ _ (by omega), by simp, by simp, btr hb0 hb1⟩
  · obtain ⟨hcB, _⟩ := bcell hb1
    have k0 : w1.cell? ⟨w.heap.size, 0, none⟩ = some (.slice ua a.length uc) := (hcB _ _ (by simp)).trans (by simp [go_sem])
    have hy1 := Ty.row_below hy0 hb1 (Ty.row_lt hy0)
    simp at hg
    have hs := hb1.size
    simp at hs
    have hd := delete_own a c (.slice ua a.length uc) G w.heap.size g cap w1 k0 hy1 (by omega) (by omega) (fun h => by have := hGlt g h; omega) hg1 hcells hc1 hc2 hI
    go_wp2_with (go_at_call 173; (with_reducible refine hd.mono ?_); rintro e w2 ⟨F2, rfl, hr, hF2, hb2, hk2⟩)
    go_ret
    refine ⟨_, F2, rfl, hr, ?_, ?_, ?_⟩
    · rcases hF2 with rfl | rfl <;> simp
    · rcases hF2 with rfl | rfl
      · simp
      · intro b hb
        obtain rfl : b = g := by simpa using hb
        exact ⟨by omega, hk2 _ (hki _ _ _ _ rfl)⟩
    · exact (btr hb0 hb1).trans (hb2.mono (by omega))
end Go.Proofs.Ytkgfgheiabapoaa
