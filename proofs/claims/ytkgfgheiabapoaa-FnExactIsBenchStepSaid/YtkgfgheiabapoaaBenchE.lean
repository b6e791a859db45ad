/- The law FnExactIsBenchStep. -/
import Derived.Test.YtkgfgheiabapoaaBenchD
import Derived.Deep.RegionHeld3
namespace Go.Proofs.Ytkgfgheiabapoaa
open Go.RowKit

set_option maxHeartbeats 4000000 in
theorem FnExactIsBenchStep_walk (k a b v : Int) (t : ByteArray) (u : Value) (xs : List Int) (F : List Nat) (w : World) (hx : Ty.int.row false w u xs F) (ht : t.size ≤ 9223372036854775807) :
    Calls Try.prog 3 #[.agg #[.int .i64 k, .string t, .int .i64 a, .int .i64 b, .int .i64 v, u]] w fun e w' => e = .returned (.bool true) ∧ Below w.heap.size w w' := by
  obtain ⟨ad, c, rfl, hl1, hl2⟩ := Ty.row_len hx
  by_cases hbig : (1048576 : Int) < (t.size : Int) + xs.length
  · go_enter Try.func3, Try.ntmps3
    go_wp2_with (go_at_call 14; refine (szBenchStep_any _ _ _ _ _ _ _ _ _ _ (by decide) (by decide) (by omega) ht).mono ?_; rintro e w1 ⟨rfl, hb1⟩; rw [if_pos (by exact hbig)])
    go_ret
    exact ⟨rfl, (by repeat (first | exact bb _ | assumption | refine bal ?_ _ | refine bdr ?_ | refine bst ?_ (by simp <;> omega) _ | refine btr ?_ (by assumption)))⟩
  have hn1 : ¬ (1048576 : Int) < (t.size : Int) + xs.length := hbig
  have hn2 : (0 : Int) ≤ 1048576 - t.size - xs.length := by omega
  go_enter Try.func3, Try.ntmps3
  go_wp2_with fail
  refine (szBenchStep_any _ _ _ _ _ _ _ _ _ _ (by decide) (by decide) (by omega) ht).mono ?_
  rintro e w1 ⟨rfl, hb1⟩
  rw [if_neg (by omega)]
  obtain ⟨hc1, hf1⟩ := bcell hb1
  have hs1 : w.heap.size < w1.heap.size := by have := hb1.size; simp at this; omega
  have hz1 : w.heap.size < w1.heap.size + 1 := by omega
  go_wp2_with fail
  refine (toBenchStep_any k a b v t _ xs F _ (Ty.row_grow hx (by repeat (first | exact bb _ | assumption | refine bal ?_ _ | refine bdr ?_ | refine bst ?_ (by simp <;> omega) _ | refine btr ?_ (by assumption)))) (by omega)).mono ?_
  rintro e w2 ⟨u2, F2, rfl, hu2, hF2, hb2⟩
  obtain ⟨ad2, c2, rfl, hl3, hl4⟩ := Ty.row_len hu2
  obtain ⟨hc2, hf2⟩ := bcell hb2
  have hs2 : w.heap.size < w2.heap.size := by have := hb2.size; omega
  have hz2 : w.heap.size < w2.heap.size + 1 := by omega
  go_wp2_with fail
  refine (specIsBenchStep_any k a b v t _ _ _ _).mono ?_
  rintro e w3 ⟨rfl, hb3⟩
  obtain ⟨hc3, hf3⟩ := bcell hb3
  have hs3 : w.heap.size < w3.heap.size := by have := hb3.size; omega
  have hz3 : w.heap.size < w3.heap.size + 1 := by omega
  go_wp2_with fail
  refine (toBenchStep_any k a b v t _ xs F _ (Ty.row_grow hx (by repeat (first | exact bb _ | assumption | refine bal ?_ _ | refine bdr ?_ | refine bst ?_ (by simp <;> omega) _ | refine btr ?_ (by assumption)))) (by omega)).mono ?_
  rintro e w4 ⟨u4, F4, rfl, hu4, hF4, hb4⟩
  obtain ⟨ad4, c4, rfl, hl5, hl6⟩ := Ty.row_len hu4
  obtain ⟨hc4, hf4⟩ := bcell hb4
  have hs4 : w.heap.size < w4.heap.size := by have := hb4.size; omega
  have hz4 : w.heap.size < w4.heap.size + 1 := by omega
  go_wp2_with fail
  refine (implIsBenchStep_any k a b v t _ _ _ _).mono ?_
  rintro e w5 ⟨rfl, hb5⟩
  rw [stepI_eq]
  obtain ⟨hc5, hf5⟩ := bcell hb5
  have hs5 : w.heap.size < w5.heap.size ∧ w4.heap.size < w5.heap.size := by have := hb5.size; simp at this; omega
  obtain ⟨hs5a, hs5b⟩ := hs5
  have hz5a : w.heap.size < w5.heap.size + 1 := by omega
  have hz5b : w4.heap.size < w5.heap.size + 1 := by omega
  go_wp2_with fail
  go_region_held3 (fun w' => w'.cell? ⟨w.heap.size, 0, none⟩ = some (.int .i64 k) ∧ w'.cell? ⟨w.heap.size, 1, none⟩ = some (.string t) ∧ w'.cell? ⟨w.heap.size, 2, none⟩ = some (.int .i64 a) ∧ w'.cell? ⟨w.heap.size, 3, none⟩ = some (.int .i64 b) ∧ w'.cell? ⟨w.heap.size, 4, none⟩ = some (.int .i64 v) ∧ w'.cell? ⟨w.heap.size, 5, none⟩ = some (.slice ad xs.length c) ∧ w'.cell? ⟨w4.heap.size, 0, none⟩ = some (.int .i64 k) ∧ w'.cell? ⟨w4.heap.size, 1, none⟩ = some (.string t) ∧ w'.cell? ⟨w4.heap.size, 2, none⟩ = some (.int .i64 a) ∧ w'.cell? ⟨w4.heap.size, 3, none⟩ = some (.int .i64 b) ∧ w'.cell? ⟨w4.heap.size, 4, none⟩ = some (.int .i64 v) ∧ w'.cell? ⟨w4.heap.size, 5, none⟩ = some (.slice ad4 xs.length c4)) (go_keep)
    (first
      | (go_at_call 16; (with_reducible refine (toBenchStep_any k a b v t _ xs F _ (Ty.row_grow hx (by repeat (first | exact bb _ | assumption | refine bal ?_ _ | refine bdr ?_ | refine bst ?_ (by simp <;> omega) _ | refine btr ?_ (by assumption)))) (by omega)).mono ?_); rintro e w6 ⟨u6, F6, rfl, hu6, hF6, hb6⟩; obtain ⟨ad6, c6, rfl, _, _⟩ := Ty.row_len hu6; have hc6a := (fun o => (bcell hb6).1 _ o hs5a); have hc6b := (fun o => (bcell hb6).1 _ o hs5b); have hs6a : w.heap.size < w6.heap.size := Nat.lt_of_lt_of_le hs5a hb6.size; have hs6b : w4.heap.size < w6.heap.size := Nat.lt_of_lt_of_le hs5b hb6.size)
      | (go_at_call 18; (with_reducible refine (eqBenchStep_same k a b v t _ _ xs F4 F6 _ (Ty.row_down (Ty.row_grow hu4 (by repeat (first | exact bb _ | assumption | refine bal ?_ _ | refine bdr ?_ | refine bst ?_ (by simp <;> omega) _ | refine btr ?_ (by assumption))))) (Ty.row_down hu6)).mono ?_); rintro e w7 ⟨rfl, hb7⟩; have hc7a := (fun o => (bcell hb7).1 _ o hs6a); have hc7b := (fun o => (bcell hb7).1 _ o hs6b)))
  all_goals go_wp2_with fail
  all_goals go_ret
  all_goals exact ⟨rfl, (by repeat (first | exact bb _ | assumption | refine bal ?_ _ | refine bdr ?_ | refine bst ?_ (by simp <;> omega) _ | refine btr ?_ (by assumption)))⟩
end Go.Proofs.Ytkgfgheiabapoaa
