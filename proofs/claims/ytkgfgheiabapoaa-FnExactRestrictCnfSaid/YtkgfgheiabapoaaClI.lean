/- Contracts: RestrictCnf in the program. -/
import Derived.Test.YtkgfgheiabapoaaClH
namespace Go.Proofs.Ytkgfgheiabapoaa
open Go.RowKit Go.Shelf

theorem good_len {vars : Int} {xss : List (List Int)} (h : goodB vars xss = true) : xss.length ≤ 60 := by
  unfold goodB at h
  simp only [Bool.and_eq_true, decide_eq_true_eq] at h
  exact h.1.2
theorem implIsCnf_at {vars : Int} {v : Value} {xss : List (List Int)} {F : List Nat} {w : World} {q : Bool} (hx : (Ty.slice Ty.int).row false w v xss F) (h : goodB vars xss = q) :
    Calls Try.prog 103 #[.agg #[.int .i64 vars, v]] w fun e w' => e = .returned (.bool q) ∧ Below w.heap.size w w' := h ▸ implIsCnf_any vars v xss F w hx
theorem implIsAssignment_at {vars : Int} {v : Value} {c : List Int} {F : List Nat} {w : World} {q : Bool} (hx : Ty.int.row false w v c F) (h : clauseB vars c = q) :
    Calls Try.prog 104 #[.int .i64 vars, v] w fun e w' => e = .returned (.bool q) ∧ Below w.heap.size w w' := h ▸ implIsAssignment_any vars v c F w hx

set_option maxHeartbeats 2000000 in
theorem implRestrictCnf_no (vars : Int) (v u : Value) (xss : List (List Int)) (a : List Int) (F G : List Nat) (w : World) (hx : (Ty.slice Ty.int).row false w v xss F) (hy : Ty.int.row false w u a G) (hno : (goodB vars xss && clauseB vars a) = false) :
    Calls Try.prog 46 #[.agg #[.int .i64 vars, v], u] w fun e w' => e = .returned (.tuple #[.agg #[.int .i64 0, .slice none 0 0], .bool false]) ∧ Below w.heap.size w w' := by
  obtain ⟨ad, cap, rfl, hx1, hx2, _⟩ := row_slices hx
  obtain ⟨ua, uc, rfl, _, _⟩ := Ty.row_len hy
  cases hg : goodB vars xss
  · go_enter Try.func46, Try.ntmps46
    go_wp2_with fail
    refine (implIsCnf_at (Ty.row_below hx (by repeat (first | exact bb _ | assumption | refine bal ?_ _ | refine bdr ?_ | refine bdn ?_ _ | refine bst ?_ (by simp <;> omega) _ | refine btr ?_ (by assumption))) (Ty.row_lt hx)) hg).mono ?_
    rintro e w1 ⟨rfl, hb1⟩
    obtain ⟨hc1, hf1⟩ := bcell hb1
    have k0 : w1.cell? ⟨w.heap.size + 1, 0, none⟩ = some (.int .i64 0) := (hc1 _ _ (by simp)).trans (by simp [go_sem])
    have k1 : w1.cell? ⟨w.heap.size + 1, 1, none⟩ = some (.slice none 0 0) := (hc1 _ _ (by simp)).trans (by simp [go_sem])
    have f0 : w1.frozen? ⟨w.heap.size + 1, 0, none⟩ = false := (hf1 _ _ (by simp)).trans (by simp [go_sem])
    have f1 : w1.frozen? ⟨w.heap.size + 1, 1, none⟩ = false := (hf1 _ _ (by simp)).trans (by simp [go_sem])
    go_wp2_with fail
    exact bodyPost_ret (v := .tuple #[.agg #[.int .i64 0, .slice none 0 0], .bool false]) (by simp [results, Try.results46, go_sem, k0, k1]) rfl ⟨rfl, (by repeat (first | exact bb _ | assumption | refine bal ?_ _ | refine bdr ?_ | refine bdn ?_ _ | refine bst ?_ (by simp <;> omega) _ | refine btr ?_ (by assumption)))⟩
  · have hcl : clauseB vars a = false := by rw [hg, Bool.true_and] at hno; exact hno
    go_enter Try.func46, Try.ntmps46
    go_wp2_with fail
    refine (implIsCnf_at (Ty.row_below hx (by repeat (first | exact bb _ | assumption | refine bal ?_ _ | refine bdr ?_ | refine bdn ?_ _ | refine bst ?_ (by simp <;> omega) _ | refine btr ?_ (by assumption))) (Ty.row_lt hx)) hg).mono ?_
    rintro e w1 ⟨rfl, hb1⟩
    obtain ⟨hc1, hf1⟩ := bcell hb1
    have hsz : w.heap.size + 1 < w1.heap.size := by have := hb1.size; simp at this; omega
    have c0 : w1.cell? ⟨w.heap.size, 0, none⟩ = some (.int .i64 vars) := (hc1 _ _ (by simp <;> omega)).trans (by simp [go_sem])
    have hB1 : Below w.heap.size w w1 := (by repeat (first | exact bb _ | assumption | refine bal ?_ _ | refine bdr ?_ | refine bdn ?_ _ | refine bst ?_ (by simp <;> omega) _ | refine btr ?_ (by assumption)))
    have k0 : w1.cell? ⟨w.heap.size + 1, 0, none⟩ = some (.int .i64 0) := (hc1 _ _ (by simp)).trans (by simp [go_sem])
    have k1 : w1.cell? ⟨w.heap.size + 1, 1, none⟩ = some (.slice none 0 0) := (hc1 _ _ (by simp)).trans (by simp [go_sem])
    have f0 : w1.frozen? ⟨w.heap.size + 1, 0, none⟩ = false := (hf1 _ _ (by simp)).trans (by simp [go_sem])
    have f1 : w1.frozen? ⟨w.heap.size + 1, 1, none⟩ = false := (hf1 _ _ (by simp)).trans (by simp [go_sem])
    go_wp2_with fail
    refine (implIsAssignment_at (Ty.row_below hy (by repeat (first | exact bb _ | assumption | refine bal ?_ _ | refine bdr ?_ | refine bdn ?_ _ | refine bst ?_ (by simp <;> omega) _ | refine btr ?_ (by assumption))) (Ty.row_lt hy)) hcl).mono ?_
    rintro e w2 ⟨rfl, hb2⟩
    obtain ⟨hc2, hf2⟩ := bcell hb2
    replace k0 := (hc2 _ _ hsz).trans k0
    replace k1 := (hc2 _ _ hsz).trans k1
    replace f0 := (hf2 _ _ hsz).trans f0
    replace f1 := (hf2 _ _ hsz).trans f1
    go_wp2_with fail
    exact bodyPost_ret (v := .tuple #[.agg #[.int .i64 0, .slice none 0 0], .bool false]) (by simp [results, Try.results46, go_sem, k0, k1]) rfl ⟨rfl, (by repeat (first | exact bb _ | assumption | refine bal ?_ _ | refine bdr ?_ | refine bdn ?_ _ | refine bst ?_ (by simp <;> omega) _ | refine btr ?_ (by assumption)))⟩

theorem clause_le {vars : Int} {xss : List (List Int)} (hm : ∀ c ∈ xss, c.length ≤ 10000000000) (k : Nat) (hk : k < xss.length) : xss[k].length ≤ 10000000000 := hm _ (List.getElem_mem hk)
/-- What RestrictCnf gives for a valid Cnf and assignment. -/
def RestrictPost (w : World) (vars : Int) (yss : List (List Int)) (e : Ending) (w' : World) : Prop :=
  ∃ (v : Value) (F : List Nat), e = .returned (.tuple #[.agg #[.int .i64 vars, v], .bool true]) ∧ (Ty.slice Ty.int).row true w' v yss F ∧ F.Nodup ∧ (∀ b ∈ F, w.heap.size ≤ b) ∧ Below w.heap.size w w'

set_option maxRecDepth 100000 in
set_option maxHeartbeats 2000000 in
theorem implRestrictCnf_ok (vars : Int) (v u : Value) (xss : List (List Int)) (a : List Int) (F G : List Nat) (w : World) (hx : (Ty.slice Ty.int).row false w v xss F) (hy : Ty.int.row false w u a G) (hg : goodB vars xss = true) (hcl : clauseB vars a = true) (hm : ∀ c ∈ xss, c.length ≤ 10000000000) :
    Calls Try.prog 46 #[.agg #[.int .i64 vars, v], u] w (RestrictPost w vars (restrictB xss a)) := by
  have hlen : xss.length ≤ 100000 := by have := good_len hg; omega
  obtain ⟨ad, cap, rfl, hx1, hx2, _⟩ := row_slices hx
  obtain ⟨ua, uc, rfl, _, _⟩ := Ty.row_len hy
  go_enter Try.func46, Try.ntmps46
  go_wp2_with fail
  refine (implIsCnf_at (Ty.row_below hx (by repeat (first | exact bb _ | assumption | refine bal ?_ _ | refine bdr ?_ | refine bdn ?_ _ | refine bst ?_ (by simp <;> omega) _ | refine btr ?_ (by assumption))) (Ty.row_lt hx)) hg).mono ?_
  rintro e w1 ⟨rfl, hb1⟩
  obtain ⟨hc1, hf1⟩ := bcell hb1
  have hsz : w.heap.size + 1 < w1.heap.size := by have := hb1.size; simp at this; omega
  have c0 : w1.cell? ⟨w.heap.size, 0, none⟩ = some (.int .i64 vars) := (hc1 _ _ (by simp <;> omega)).trans (by simp [go_sem])
  have c1 : w1.cell? ⟨w.heap.size, 1, none⟩ = some (.slice ad xss.length cap) := (hc1 _ _ (by simp <;> omega)).trans (by simp [go_sem])
  have hB1 : Below w.heap.size w w1 := (by repeat (first | exact bb _ | assumption | refine bal ?_ _ | refine bdr ?_ | refine bdn ?_ _ | refine bst ?_ (by simp <;> omega) _ | refine btr ?_ (by assumption)))
  have k0 : w1.cell? ⟨w.heap.size + 1, 0, none⟩ = some (.int .i64 0) := (hc1 _ _ (by simp)).trans (by simp [go_sem])
  have k1 : w1.cell? ⟨w.heap.size + 1, 1, none⟩ = some (.slice none 0 0) := (hc1 _ _ (by simp)).trans (by simp [go_sem])
  have f0 : w1.frozen? ⟨w.heap.size + 1, 0, none⟩ = false := (hf1 _ _ (by simp)).trans (by simp [go_sem])
  have f1 : w1.frozen? ⟨w.heap.size + 1, 1, none⟩ = false := (hf1 _ _ (by simp)).trans (by simp [go_sem])
  go_wp2_with fail
  refine (implIsAssignment_at (Ty.row_below hy (by repeat (first | exact bb _ | assumption | refine bal ?_ _ | refine bdr ?_ | refine bdn ?_ _ | refine bst ?_ (by simp <;> omega) _ | refine btr ?_ (by assumption))) (Ty.row_lt hy)) hcl).mono ?_
  rintro e w2 ⟨rfl, hb2⟩
  obtain ⟨hc2, hf2⟩ := bcell hb2
  replace k0 := (hc2 _ _ hsz).trans k0
  replace k1 := (hc2 _ _ hsz).trans k1
  replace f0 := (hf2 _ _ hsz).trans f0
  replace f1 := (hf2 _ _ hsz).trans f1
  have d0 := (hc2 w.heap.size 0 (by omega)).trans c0
  have d1 := (hc2 w.heap.size 1 (by omega)).trans c1
  have hB2 : Below w.heap.size w w2 := btr hB1 hb2
  have hsz2 : w.heap.size + 1 < w2.heap.size := Nat.lt_of_lt_of_le hsz hb2.size
  clear hb1 hb2 hc1 hc2 hf1 hf2 c0 c1 hsz hB1
  have hx2 := Ty.row_below hx hB2 (Ty.row_lt hx)
  have hy2 := Ty.row_below hy hB2 (Ty.row_lt hy)
  have hset : ∀ (W' : World) (o o' : Nat) (v : Value), (W'.setCell ⟨w.heap.size + 1, o', none⟩ v).cell? ⟨w.heap.size, o, none⟩ = W'.cell? ⟨w.heap.size, o, none⟩ := fun W' o o' v => World.cell?_setCell_other W' _ _ _ (by simp only [ne_eq, Addr.mk.injEq]; omega)
  go_upto_region 3 with fail
  go_region_held3 (fun w' => w'.cell? ⟨w.heap.size, 0, none⟩ = some (.int .i64 vars) ∧ w'.cell? ⟨w.heap.size, 1, none⟩ = some (.slice ad xss.length cap)) (go_keep)
    (first
      | (go_at_call 105; (with_reducible refine (implRestrict_any _ _ _ _ F G _ (Ty.row_below hx (by repeat (first | exact bb _ | assumption | refine bal ?_ _ | refine bdr ?_ | refine bdn ?_ _ | refine bst ?_ (by simp <;> omega) _ | refine btr ?_ (by assumption))) (Ty.row_lt hx)) (Ty.row_below hy (by repeat (first | exact bb _ | assumption | refine bal ?_ _ | refine bdr ?_ | refine bdn ?_ _ | refine bst ?_ (by simp <;> omega) _ | refine btr ?_ (by assumption))) (Ty.row_lt hy)) hlen hm).mono ?_); rintro e w3 ⟨v3, F3, rfl, hr3, hn3, hF3, hb3⟩; obtain ⟨va, vc, rfl, _, _⟩ := Ty.row_len hr3; have z := (fun o => (bcell hb3).1 w.heap.size o (by first | omega | (simp; done) | (simp; omega))); have y0 := ((bcell hb3).1 _ 0 hsz2).trans k0; have y1 := ((bcell hb3).1 _ 1 hsz2).trans k1; have g0 := ((bcell hb3).2 _ 0 hsz2).trans f0; have g1 := ((bcell hb3).2 _ 1 hsz2).trans f1))
  all_goals
    go_wp2_with fail
    have hnot : w.heap.size + 1 ∉ F3 := fun h => by have h2 : w2.heap.size ≤ w.heap.size + 1 := hF3 _ h; omega
    exact bodyPost_ret (v := .tuple #[.agg #[.int .i64 vars, .slice va (restrictB xss a).length vc], .bool true])
      (by simp [results, Try.results46, go_sem, y0, y1]) rfl
      ⟨_, F3, rfl, row_set (row_set hr3 (by exact hnot) _) (by exact hnot) _, hn3, fun b hb => Nat.le_trans hB2.size (show w2.heap.size ≤ b from hF3 b hb), (by repeat (first | exact bb _ | assumption | refine bal ?_ _ | refine bdr ?_ | refine bdn ?_ _ | refine bst ?_ (by simp <;> omega) _ | refine btr ?_ (by assumption)))⟩
end Go.Proofs.Ytkgfgheiabapoaa
