/- Contracts for bench steps: the reference's and the program's. -/
import Derived.Test.YtkgfgheiabapoaaBenchA

import Derived.Lib.Hide
namespace Go.Proofs.Ytkgfgheiabapoaa
open Go.RowKit

/-- Which fields a kind of step may use: the fields that are empty. -/
def kindB (k : Int) (e1 e2 e3 e4 e5 : Bool) : Bool :=
  if k = 1 then e2 && e3 && e4 && e5
  else if k = 2 ∨ k = 5 then e1 && e3 && e4 && e5
  else if k = 3 then (e1 && e5) && !e4
  else if k = 4 then e1 && e3 && e4
  else if k = 8 then (e1 && e2 && e3 && e5) && !e4
  else if k = 6 ∨ k = 7 ∨ k = 9 ∨ k = 10 ∨ k = 11 then e1 && e2 && e3 && e4 && e5
  else false
def stepB (k : Int) (t : List UInt8) (a b v : Int) (n : Nat) : Bool :=
  (decide (0 ≤ a) && decide (0 ≤ b) && decide ((n : Int) ≤ 12)) && kindB k t.isEmpty (a == 0) (b == 0) (v == 0) ((n : Int) == 0)

set_option maxHeartbeats 1000000 in
theorem l32Step_k1 (a b v : Int) (t : ByteArray) (ad : Option Addr) (n c : Nat) (w : World) (ha : 0 ≤ a) (hb : 0 ≤ b) (hn : (n : Int) ≤ 12) :
    Calls Try.prog 64 #[.agg #[.int .i64 1, .string t, .int .i64 a, .int .i64 b, .int .i64 v, .slice ad n c]] w fun e w' => e = .returned (.bool (stepB 1 (bl t) a b v n)) ∧ Below w.heap.size w w' := by

  have HS : Hid (stepB 1 (bl t) a b v n = kindB 1 (bl t).isEmpty (a == 0) (b == 0) (v == 0) ((n : Int) == 0)) := by unfold Hid stepB; simp [ha, hb, hn]
  go_enter Try.func64, Try.ntmps64
  go_wp2_with (go_at_call 123; refine (l32Plain_load _ _ _ _ _ _ _ _ _).mono ?_; rintro e w1 ⟨rfl, hb1⟩; obtain ⟨hc1, hf1⟩ := bcell hb1)
  all_goals go_ret
  all_goals exact ⟨ret_bool (by rw [HS.out]; simp [kindB, *] <;> rfl), btr (bal (bb _) _) (by assumption)⟩

set_option maxHeartbeats 1000000 in
theorem l32Step_k2 (a b v : Int) (t : ByteArray) (ad : Option Addr) (n c : Nat) (w : World) (ha : 0 ≤ a) (hb : 0 ≤ b) (hn : (n : Int) ≤ 12) :
    Calls Try.prog 64 #[.agg #[.int .i64 2, .string t, .int .i64 a, .int .i64 b, .int .i64 v, .slice ad n c]] w fun e w' => e = .returned (.bool (stepB 2 (bl t) a b v n)) ∧ Below w.heap.size w w' := by

  have HS : Hid (stepB 2 (bl t) a b v n = kindB 2 (bl t).isEmpty (a == 0) (b == 0) (v == 0) ((n : Int) == 0)) := by unfold Hid stepB; simp [ha, hb, hn]
  go_enter Try.func64, Try.ntmps64
  go_wp2_with (go_at_call 123; refine (l32Plain_one _ _ _ _ _ _ _ _ _).mono ?_; rintro e w1 ⟨rfl, hb1⟩; obtain ⟨hc1, hf1⟩ := bcell hb1)
  all_goals go_ret
  all_goals exact ⟨ret_bool (by rw [HS.out]; simp [kindB, *] <;> rfl), btr (bal (bb _) _) (by assumption)⟩

set_option maxHeartbeats 1000000 in
theorem l32Step_k3 (a b v : Int) (t : ByteArray) (ad : Option Addr) (n c : Nat) (w : World) (ha : 0 ≤ a) (hb : 0 ≤ b) (hn : (n : Int) ≤ 12) :
    Calls Try.prog 64 #[.agg #[.int .i64 3, .string t, .int .i64 a, .int .i64 b, .int .i64 v, .slice ad n c]] w fun e w' => e = .returned (.bool (stepB 3 (bl t) a b v n)) ∧ Below w.heap.size w w' := by

  have HS : Hid (stepB 3 (bl t) a b v n = kindB 3 (bl t).isEmpty (a == 0) (b == 0) (v == 0) ((n : Int) == 0)) := by unfold Hid stepB; simp [ha, hb, hn]
  go_enter Try.func64, Try.ntmps64
  go_wp2_with (go_at_call 123; refine (l32Plain_res _ _ _ _ _ _ _ _ _).mono ?_; rintro e w1 ⟨rfl, hb1⟩; obtain ⟨hc1, hf1⟩ := bcell hb1)
  all_goals go_ret
  all_goals exact ⟨ret_bool (by rw [HS.out]; simp [kindB, *] <;> rfl), btr (bal (bb _) _) (by assumption)⟩

set_option maxHeartbeats 1000000 in
theorem l32Step_k4 (a b v : Int) (t : ByteArray) (ad : Option Addr) (n c : Nat) (w : World) (ha : 0 ≤ a) (hb : 0 ≤ b) (hn : (n : Int) ≤ 12) :
    Calls Try.prog 64 #[.agg #[.int .i64 4, .string t, .int .i64 a, .int .i64 b, .int .i64 v, .slice ad n c]] w fun e w' => e = .returned (.bool (stepB 4 (bl t) a b v n)) ∧ Below w.heap.size w w' := by

  have HS : Hid (stepB 4 (bl t) a b v n = kindB 4 (bl t).isEmpty (a == 0) (b == 0) (v == 0) ((n : Int) == 0)) := by unfold Hid stepB; simp [ha, hb, hn]
  go_enter Try.func64, Try.ntmps64
  go_wp2_with (go_at_call 123; refine (l32Plain_weak _ _ _ _ _ _ _ _ _).mono ?_; rintro e w1 ⟨rfl, hb1⟩; obtain ⟨hc1, hf1⟩ := bcell hb1)
  all_goals go_ret
  all_goals exact ⟨ret_bool (by rw [HS.out]; simp [kindB, *] <;> rfl), btr (bal (bb _) _) (by assumption)⟩

set_option maxHeartbeats 1000000 in
theorem l32Step_k5 (a b v : Int) (t : ByteArray) (ad : Option Addr) (n c : Nat) (w : World) (ha : 0 ≤ a) (hb : 0 ≤ b) (hn : (n : Int) ≤ 12) :
    Calls Try.prog 64 #[.agg #[.int .i64 5, .string t, .int .i64 a, .int .i64 b, .int .i64 v, .slice ad n c]] w fun e w' => e = .returned (.bool (stepB 5 (bl t) a b v n)) ∧ Below w.heap.size w w' := by

  have HS : Hid (stepB 5 (bl t) a b v n = kindB 5 (bl t).isEmpty (a == 0) (b == 0) (v == 0) ((n : Int) == 0)) := by unfold Hid stepB; simp [ha, hb, hn]
  go_enter Try.func64, Try.ntmps64
  go_wp2_with (go_at_call 123; refine (l32Plain_one _ _ _ _ _ _ _ _ _).mono ?_; rintro e w1 ⟨rfl, hb1⟩; obtain ⟨hc1, hf1⟩ := bcell hb1)
  all_goals go_ret
  all_goals exact ⟨ret_bool (by rw [HS.out]; simp [kindB, *] <;> rfl), btr (bal (bb _) _) (by assumption)⟩

set_option maxHeartbeats 1000000 in
theorem l32Step_k6 (a b v : Int) (t : ByteArray) (ad : Option Addr) (n c : Nat) (w : World) (ha : 0 ≤ a) (hb : 0 ≤ b) (hn : (n : Int) ≤ 12) :
    Calls Try.prog 64 #[.agg #[.int .i64 6, .string t, .int .i64 a, .int .i64 b, .int .i64 v, .slice ad n c]] w fun e w' => e = .returned (.bool (stepB 6 (bl t) a b v n)) ∧ Below w.heap.size w w' := by

  have HS : Hid (stepB 6 (bl t) a b v n = kindB 6 (bl t).isEmpty (a == 0) (b == 0) (v == 0) ((n : Int) == 0)) := by unfold Hid stepB; simp [ha, hb, hn]
  go_enter Try.func64, Try.ntmps64
  go_wp2_with (go_at_call 123; refine (l32Plain_none _ _ _ _ _ _ _ _ _).mono ?_; rintro e w1 ⟨rfl, hb1⟩; obtain ⟨hc1, hf1⟩ := bcell hb1)
  all_goals go_ret
  all_goals exact ⟨ret_bool (by rw [HS.out]; simp [kindB, *] <;> rfl), btr (bal (bb _) _) (by assumption)⟩

set_option maxHeartbeats 1000000 in
theorem l32Step_k7 (a b v : Int) (t : ByteArray) (ad : Option Addr) (n c : Nat) (w : World) (ha : 0 ≤ a) (hb : 0 ≤ b) (hn : (n : Int) ≤ 12) :
    Calls Try.prog 64 #[.agg #[.int .i64 7, .string t, .int .i64 a, .int .i64 b, .int .i64 v, .slice ad n c]] w fun e w' => e = .returned (.bool (stepB 7 (bl t) a b v n)) ∧ Below w.heap.size w w' := by

  have HS : Hid (stepB 7 (bl t) a b v n = kindB 7 (bl t).isEmpty (a == 0) (b == 0) (v == 0) ((n : Int) == 0)) := by unfold Hid stepB; simp [ha, hb, hn]
  go_enter Try.func64, Try.ntmps64
  go_wp2_with (go_at_call 123; refine (l32Plain_none _ _ _ _ _ _ _ _ _).mono ?_; rintro e w1 ⟨rfl, hb1⟩; obtain ⟨hc1, hf1⟩ := bcell hb1)
  all_goals go_ret
  all_goals exact ⟨ret_bool (by rw [HS.out]; simp [kindB, *] <;> rfl), btr (bal (bb _) _) (by assumption)⟩

set_option maxHeartbeats 1000000 in
theorem l32Step_k8 (a b v : Int) (t : ByteArray) (ad : Option Addr) (n c : Nat) (w : World) (ha : 0 ≤ a) (hb : 0 ≤ b) (hn : (n : Int) ≤ 12) :
    Calls Try.prog 64 #[.agg #[.int .i64 8, .string t, .int .i64 a, .int .i64 b, .int .i64 v, .slice ad n c]] w fun e w' => e = .returned (.bool (stepB 8 (bl t) a b v n)) ∧ Below w.heap.size w w' := by

  have HS : Hid (stepB 8 (bl t) a b v n = kindB 8 (bl t).isEmpty (a == 0) (b == 0) (v == 0) ((n : Int) == 0)) := by unfold Hid stepB; simp [ha, hb, hn]
  go_enter Try.func64, Try.ntmps64
  go_wp2_with (go_at_call 123; refine (l32Plain_restr _ _ _ _ _ _ _ _ _).mono ?_; rintro e w1 ⟨rfl, hb1⟩; obtain ⟨hc1, hf1⟩ := bcell hb1)
  all_goals go_ret
  all_goals exact ⟨ret_bool (by rw [HS.out]; simp [kindB, *] <;> rfl), btr (bal (bb _) _) (by assumption)⟩

set_option maxHeartbeats 1000000 in
theorem l32Step_k9 (a b v : Int) (t : ByteArray) (ad : Option Addr) (n c : Nat) (w : World) (ha : 0 ≤ a) (hb : 0 ≤ b) (hn : (n : Int) ≤ 12) :
    Calls Try.prog 64 #[.agg #[.int .i64 9, .string t, .int .i64 a, .int .i64 b, .int .i64 v, .slice ad n c]] w fun e w' => e = .returned (.bool (stepB 9 (bl t) a b v n)) ∧ Below w.heap.size w w' := by

  have HS : Hid (stepB 9 (bl t) a b v n = kindB 9 (bl t).isEmpty (a == 0) (b == 0) (v == 0) ((n : Int) == 0)) := by unfold Hid stepB; simp [ha, hb, hn]
  go_enter Try.func64, Try.ntmps64
  go_wp2_with (go_at_call 123; refine (l32Plain_none _ _ _ _ _ _ _ _ _).mono ?_; rintro e w1 ⟨rfl, hb1⟩; obtain ⟨hc1, hf1⟩ := bcell hb1)
  all_goals go_ret
  all_goals exact ⟨ret_bool (by rw [HS.out]; simp [kindB, *] <;> rfl), btr (bal (bb _) _) (by assumption)⟩

set_option maxHeartbeats 1000000 in
theorem l32Step_k10 (a b v : Int) (t : ByteArray) (ad : Option Addr) (n c : Nat) (w : World) (ha : 0 ≤ a) (hb : 0 ≤ b) (hn : (n : Int) ≤ 12) :
    Calls Try.prog 64 #[.agg #[.int .i64 10, .string t, .int .i64 a, .int .i64 b, .int .i64 v, .slice ad n c]] w fun e w' => e = .returned (.bool (stepB 10 (bl t) a b v n)) ∧ Below w.heap.size w w' := by

  have HS : Hid (stepB 10 (bl t) a b v n = kindB 10 (bl t).isEmpty (a == 0) (b == 0) (v == 0) ((n : Int) == 0)) := by unfold Hid stepB; simp [ha, hb, hn]
  go_enter Try.func64, Try.ntmps64
  go_wp2_with (go_at_call 123; refine (l32Plain_none _ _ _ _ _ _ _ _ _).mono ?_; rintro e w1 ⟨rfl, hb1⟩; obtain ⟨hc1, hf1⟩ := bcell hb1)
  all_goals go_ret
  all_goals exact ⟨ret_bool (by rw [HS.out]; simp [kindB, *] <;> rfl), btr (bal (bb _) _) (by assumption)⟩

set_option maxHeartbeats 1000000 in
theorem l32Step_k11 (a b v : Int) (t : ByteArray) (ad : Option Addr) (n c : Nat) (w : World) (ha : 0 ≤ a) (hb : 0 ≤ b) (hn : (n : Int) ≤ 12) :
    Calls Try.prog 64 #[.agg #[.int .i64 11, .string t, .int .i64 a, .int .i64 b, .int .i64 v, .slice ad n c]] w fun e w' => e = .returned (.bool (stepB 11 (bl t) a b v n)) ∧ Below w.heap.size w w' := by

  have HS : Hid (stepB 11 (bl t) a b v n = kindB 11 (bl t).isEmpty (a == 0) (b == 0) (v == 0) ((n : Int) == 0)) := by unfold Hid stepB; simp [ha, hb, hn]
  go_enter Try.func64, Try.ntmps64
  go_wp2_with (go_at_call 123; refine (l32Plain_none _ _ _ _ _ _ _ _ _).mono ?_; rintro e w1 ⟨rfl, hb1⟩; obtain ⟨hc1, hf1⟩ := bcell hb1)
  all_goals go_ret
  all_goals exact ⟨ret_bool (by rw [HS.out]; simp [kindB, *] <;> rfl), btr (bal (bb _) _) (by assumption)⟩

set_option maxHeartbeats 1000000 in
theorem l32Step_bad (k a b v : Int) (t : ByteArray) (ad : Option Addr) (n c : Nat) (w : World) (h : a < 0 ∨ b < 0 ∨ 12 < (n : Int)) :
    Calls Try.prog 64 #[.agg #[.int .i64 k, .string t, .int .i64 a, .int .i64 b, .int .i64 v, .slice ad n c]] w fun e w' => e = .returned (.bool (stepB k (bl t) a b v n)) ∧ Below w.heap.size w w' := by

  have HS : Hid (stepB k (bl t) a b v n = false) := by unfold Hid stepB; rcases h with h | h | h <;> simp <;> omega
  by_cases ha : a < 0
  · go_enter Try.func64, Try.ntmps64
    go_wp2_with fail
    go_ret
    exact ⟨ret_bool HS.out.symm, bal (bb _) _⟩
  have ha' : ¬ a < 0 := ha
  by_cases hb : b < 0
  · go_enter Try.func64, Try.ntmps64
    go_wp2_with fail
    go_ret
    exact ⟨ret_bool HS.out.symm, bal (bb _) _⟩
  have hn : 12 < (n : Int) := by omega
  clear h
  go_enter Try.func64, Try.ntmps64
  go_wp2_with fail
  go_ret
  exact ⟨ret_bool HS.out.symm, bal (bb _) _⟩

set_option maxHeartbeats 1000000 in
theorem l32Step_other (k a b v : Int) (t : ByteArray) (ad : Option Addr) (n c : Nat) (w : World) (ha : 0 ≤ a) (hb : 0 ≤ b) (hn : (n : Int) ≤ 12) (hk : k ≠ 1 ∧ k ≠ 2 ∧ k ≠ 3 ∧ k ≠ 4 ∧ k ≠ 5 ∧ k ≠ 6 ∧ k ≠ 7 ∧ k ≠ 8 ∧ k ≠ 9 ∧ k ≠ 10 ∧ k ≠ 11) :
    Calls Try.prog 64 #[.agg #[.int .i64 k, .string t, .int .i64 a, .int .i64 b, .int .i64 v, .slice ad n c]] w fun e w' => e = .returned (.bool (stepB k (bl t) a b v n)) ∧ Below w.heap.size w w' := by

  have HS : Hid (stepB k (bl t) a b v n = false) := by
    unfold Hid stepB kindB; obtain ⟨k1, k2, k3, k4, k5, k6, k7, k8, k9, k10, k11⟩ := hk; simp [*]
  obtain ⟨k1, k2, k3, k4, k5, k6, k7, k8, k9, k10, k11⟩ := hk
  have q1 : (k == 1) = false := by simpa using k1
  have q2 : (k == 2) = false := by simpa using k2
  have q3 : (k == 3) = false := by simpa using k3
  have q4 : (k == 4) = false := by simpa using k4
  have q5 : (k == 5) = false := by simpa using k5
  have q6 : (k == 6) = false := by simpa using k6
  have q7 : (k == 7) = false := by simpa using k7
  have q8 : (k == 8) = false := by simpa using k8
  have q9 : (k == 9) = false := by simpa using k9
  have q10 : (k == 10) = false := by simpa using k10
  have q11 : (k == 11) = false := by simpa using k11
  clear k1 k2 k3 k4 k5 k6 k7 k8 k9 k10 k11
  go_enter Try.func64, Try.ntmps64
  go_wp2_with fail
  go_ret
  exact ⟨ret_bool HS.out.symm, bal (bb _) _⟩

theorem l32Step_any (k a b v : Int) (t : ByteArray) (ad : Option Addr) (n c : Nat) (w : World) :
    Calls Try.prog 64 #[.agg #[.int .i64 k, .string t, .int .i64 a, .int .i64 b, .int .i64 v, .slice ad n c]] w fun e w' => e = .returned (.bool (stepB k (bl t) a b v n)) ∧ Below w.heap.size w w' := by
  by_cases h : a < 0 ∨ b < 0 ∨ 12 < (n : Int)
  · exact l32Step_bad _ _ _ _ _ _ _ _ _ h
  have ha : 0 ≤ a := by omega
  have hb : 0 ≤ b := by omega
  have hn : (n : Int) ≤ 12 := by omega
  by_cases k1 : k = 1
  · subst k1; exact l32Step_k1 _ _ _ _ _ _ _ _ ha hb hn
  by_cases k2 : k = 2
  · subst k2; exact l32Step_k2 _ _ _ _ _ _ _ _ ha hb hn
  by_cases k3 : k = 3
  · subst k3; exact l32Step_k3 _ _ _ _ _ _ _ _ ha hb hn
  by_cases k4 : k = 4
  · subst k4; exact l32Step_k4 _ _ _ _ _ _ _ _ ha hb hn
  by_cases k5 : k = 5
  · subst k5; exact l32Step_k5 _ _ _ _ _ _ _ _ ha hb hn
  by_cases k6 : k = 6
  · subst k6; exact l32Step_k6 _ _ _ _ _ _ _ _ ha hb hn
  by_cases k7 : k = 7
  · subst k7; exact l32Step_k7 _ _ _ _ _ _ _ _ ha hb hn
  by_cases k8 : k = 8
  · subst k8; exact l32Step_k8 _ _ _ _ _ _ _ _ ha hb hn
  by_cases k9 : k = 9
  · subst k9; exact l32Step_k9 _ _ _ _ _ _ _ _ ha hb hn
  by_cases k10 : k = 10
  · subst k10; exact l32Step_k10 _ _ _ _ _ _ _ _ ha hb hn
  by_cases k11 : k = 11
  · subst k11; exact l32Step_k11 _ _ _ _ _ _ _ _ ha hb hn
  exact l32Step_other _ _ _ _ _ _ _ _ _ ha hb hn ⟨k1, k2, k3, k4, k5, k6, k7, k8, k9, k10, k11⟩

set_option maxHeartbeats 400000 in
theorem specIsBenchStep_any (k a b v : Int) (t : ByteArray) (ad : Option Addr) (n c : Nat) (w : World) :
    Calls Try.prog 15 #[.agg #[.int .i64 k, .string t, .int .i64 a, .int .i64 b, .int .i64 v, .slice ad n c]] w fun e w' => e = .returned (.bool (stepB k (bl t) a b v n)) ∧ Below w.heap.size w w' := by
  go_enter Try.func15, Try.ntmps15
  go_wp2_with (go_at_call 64; refine (l32Step_any _ _ _ _ _ _ _ _ _).mono ?_; rintro e w1 ⟨rfl, hb1⟩)
  go_ret
  exact ⟨rfl, btr (bal (bb _) _) (by assumption)⟩

end Go.Proofs.Ytkgfgheiabapoaa