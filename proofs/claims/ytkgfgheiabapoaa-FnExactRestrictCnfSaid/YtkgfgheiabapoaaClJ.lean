/- Contracts: RestrictCnf in the reference. -/
import Derived.Test.YtkgfgheiabapoaaClI
namespace Go.Proofs.Ytkgfgheiabapoaa
open Go.RowKit Go.Shelf

theorem l3Asked_at {vars : Int} {v u : Value} {xss : List (List Int)} {c : List Int} {F G : List Nat} {w : World} {q : Bool} (hx : (Ty.slice Ty.int).row false w v xss F) (hy : Ty.int.row false w u c G) (h : (goodB vars xss && clauseB vars c) = q) :
    Calls Try.prog 100 #[.agg #[.int .i64 vars, v], u] w fun e w' => e = .returned (.bool q) ∧ Below w.heap.size w w' := h ▸ l3Asked_any vars v u xss c F G w hx hy

set_option maxHeartbeats 2000000 in
theorem specRestrictCnf_no (vars : Int) (v u : Value) (xss : List (List Int)) (a : List Int) (F G : List Nat) (w : World) (hx : (Ty.slice Ty.int).row false w v xss F) (hy : Ty.int.row false w u a G) (hno : (goodB vars xss && clauseB vars a) = false) :
    Calls Try.prog 43 #[.agg #[.int .i64 vars, v], u] w fun e w' => e = .returned (.tuple #[.agg #[.int .i64 0, .slice none 0 0], .bool false]) ∧ Below w.heap.size w w' := by
  obtain ⟨ad, cap, rfl, hx1, hx2, _⟩ := row_slices hx
  obtain ⟨ua, uc, rfl, _, _⟩ := Ty.row_len hy
  go_enter Try.func43, Try.ntmps43
  go_wp2_with fail
  refine (l3Asked_at (Ty.row_below hx (by repeat (first | exact bb _ | assumption | refine bal ?_ _ | refine bdr ?_ | refine bdn ?_ _ | refine bst ?_ (by simp <;> omega) _ | refine btr ?_ (by assumption))) (Ty.row_lt hx)) (Ty.row_below hy (by repeat (first | exact bb _ | assumption | refine bal ?_ _ | refine bdr ?_ | refine bdn ?_ _ | refine bst ?_ (by simp <;> omega) _ | refine btr ?_ (by assumption))) (Ty.row_lt hy)) hno).mono ?_
  rintro e w1 ⟨rfl, hb1⟩
  obtain ⟨hc1, hf1⟩ := bcell hb1
  have k0 : w1.cell? ⟨w.heap.size + 1, 0, none⟩ = some (.int .i64 0) := (hc1 _ _ (by simp)).trans (by simp [go_sem])
  have k1 : w1.cell? ⟨w.heap.size + 1, 1, none⟩ = some (.slice none 0 0) := (hc1 _ _ (by simp)).trans (by simp [go_sem])
  have f0 : w1.frozen? ⟨w.heap.size + 1, 0, none⟩ = false := (hf1 _ _ (by simp)).trans (by simp [go_sem])
  have f1 : w1.frozen? ⟨w.heap.size + 1, 1, none⟩ = false := (hf1 _ _ (by simp)).trans (by simp [go_sem])
  go_wp2_with fail
  exact bodyPost_ret (v := .tuple #[.agg #[.int .i64 0, .slice none 0 0], .bool false]) (by simp [results, Try.results43, go_sem, k0, k1]) rfl ⟨rfl, (by repeat (first | exact bb _ | assumption | refine bal ?_ _ | refine bdr ?_ | refine bdn ?_ _ | refine bst ?_ (by simp <;> omega) _ | refine btr ?_ (by assumption)))⟩
end Go.Proofs.Ytkgfgheiabapoaa
