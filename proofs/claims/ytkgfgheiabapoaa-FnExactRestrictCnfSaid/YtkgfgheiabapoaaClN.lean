/- Contracts: RestrictCnf in the reference and in the program, valid or not. -/
import Derived.Test.YtkgfgheiabapoaaClM
namespace Go.Proofs.Ytkgfgheiabapoaa
open Go.RowKit Go.Shelf

set_option maxRecDepth 100000 in
set_option maxHeartbeats 2000000 in
theorem specRestrictCnf_ok (vars : Int) (v u : Value) (xss : List (List Int)) (a : List Int) (F G : List Nat) (w : World) (hx : (Ty.slice Ty.int).row false w v xss F) (hy : Ty.int.row false w u a G) (hok : (goodB vars xss && clauseB vars a) = true) (hm : ∀ c ∈ xss, c.length ≤ 10000000000) :
    Calls Try.prog 43 #[.agg #[.int .i64 vars, v], u] w (RestrictPost w vars (restrictB xss a)) := by
  have hlen : xss.length ≤ 100000 := by have := good_len (by simp only [Bool.and_eq_true] at hok; exact hok.1 : goodB vars xss = true); omega
  obtain ⟨ad, cap, rfl, hx1, hx2, _⟩ := row_slices hx
  obtain ⟨ua, uc, rfl, _, _⟩ := Ty.row_len hy
  have S0 := ((Sp.start w).alloc_box #[.int .i64 vars, .slice ad xss.length cap] 68).alloc_box #[.int .i64 0, .slice none 0 0] 68
  simp only [World.size_alloc] at S0
  replace S0 := Lib.hid S0
  go_enter Try.func43, Try.ntmps43
  go_wp2_with fail
  refine (l3Asked_at (Ty.row_below hx (by repeat (first | exact bb _ | assumption | refine bal ?_ _ | refine bdr ?_ | refine bdn ?_ _ | refine bst ?_ (by simp <;> omega) _ | refine btr ?_ (by assumption))) (Ty.row_lt hx)) (Ty.row_below hy (by repeat (first | exact bb _ | assumption | refine bal ?_ _ | refine bdr ?_ | refine bdn ?_ _ | refine bst ?_ (by simp <;> omega) _ | refine btr ?_ (by assumption))) (Ty.row_lt hy)) hok).mono ?_
  rintro e w1 ⟨rfl, hb1⟩
  have S1 := S0.out.grow hb1
  have a0 := S1.cell (i := 1) rfl (o := 0) rfl
  have a1 := S1.cell (i := 1) rfl (o := 1) rfl
  have hB1 := S1.below
  replace S1 := Lib.hid S1
  go_wp2_with fail
  refine (l3Under_any vars _ _ xss a F G _ (Ty.row_below hx hB1 (Ty.row_lt hx)) (Ty.row_below hy hB1 (Ty.row_lt hy)) hlen hm).mono ?_
  rintro e w2 ⟨v2, F2, rfl, hr2, hn2, hF2, hb2⟩
  have S2 := S1.out.row_new hb2 hr2 hn2 hF2
  obtain ⟨va, vc, rfl, _, _⟩ := Ty.row_len hr2
  have r0 := S2.cell (i := 1) rfl (o := 0) rfl
  have r1 := S2.cell (i := 1) rfl (o := 1) rfl
  have q0 := S2.frozen (i := 1) rfl 0
  have q1 := S2.frozen (i := 1) rfl 1
  have S3 := (S2.store (i := 1) rfl 0 (.int .i64 vars)).store (i := 1) rfl 1 (.slice va (restrictB xss a).length vc)
  obtain ⟨F3, ⟨hr3, hn3⟩, hF3⟩ := S3.head
  have hB3 := S3.below
  replace S3 := Lib.hid S3
  replace hr3 := Lib.hid hr3
  clear S2 S1 S0 hr2
  go_wp2_with fail
  exact bodyPost_ret (v := .tuple #[.agg #[.int .i64 vars, .slice va (restrictB xss a).length vc], .bool true]) (by simp [results, Try.results43, go_sem, r0, r1]) rfl ⟨_, F3, rfl, hr3.out, hn3, hF3, hB3⟩

/-- What RestrictCnf gives. -/
def restB (vars : Int) (xss : List (List Int)) (a : List Int) : Int × List (List Int) × Bool := if goodB vars xss && clauseB vars a then (vars, restrictB xss a, true) else (0, [], false)
def RestPost (w : World) (r : Int × List (List Int) × Bool) (e : Ending) (w' : World) : Prop :=
  ∃ (v : Value) (F : List Nat), e = .returned (.tuple #[.agg #[.int .i64 r.1, v], .bool r.2.2]) ∧ (Ty.slice Ty.int).row true w' v r.2.1 F ∧ F.Nodup ∧ (∀ b ∈ F, w.heap.size ≤ b) ∧ Below w.heap.size w w'

theorem specRestrictCnf_any (vars : Int) (v u : Value) (xss : List (List Int)) (a : List Int) (F G : List Nat) (w : World) (hx : (Ty.slice Ty.int).row false w v xss F) (hy : Ty.int.row false w u a G) (hm : ∀ c ∈ xss, c.length ≤ 10000000000) :
    Calls Try.prog 43 #[.agg #[.int .i64 vars, v], u] w (RestPost w (restB vars xss a)) := by
  unfold restB
  cases h : (goodB vars xss && clauseB vars a)
  · rw [if_neg (by simp)]
    exact (specRestrictCnf_no vars v u xss a F G w hx hy h).mono fun e w' ⟨he, hb⟩ => ⟨_, [], he, Ty.row_nil _ _ _ _ _ (by omega), by simp, by simp, hb⟩
  · rw [if_pos rfl]
    exact specRestrictCnf_ok vars v u xss a F G w hx hy h hm
theorem implRestrictCnf_any (vars : Int) (v u : Value) (xss : List (List Int)) (a : List Int) (F G : List Nat) (w : World) (hx : (Ty.slice Ty.int).row false w v xss F) (hy : Ty.int.row false w u a G) (hm : ∀ c ∈ xss, c.length ≤ 10000000000) :
    Calls Try.prog 46 #[.agg #[.int .i64 vars, v], u] w (RestPost w (restB vars xss a)) := by
  unfold restB
  cases h : (goodB vars xss && clauseB vars a)
  · rw [if_neg (by simp)]
    exact (implRestrictCnf_no vars v u xss a F G w hx hy (by cases h1 : goodB vars xss <;> simp_all)).mono fun e w' ⟨he, hb⟩ => ⟨_, [], he, Ty.row_nil _ _ _ _ _ (by omega), by simp, by simp, hb⟩
  · rw [if_pos rfl]
    simp only [Bool.and_eq_true] at h
    exact implRestrictCnf_ok vars v u xss a F G w hx hy h.1 h.2 hm
end Go.Proofs.Ytkgfgheiabapoaa
