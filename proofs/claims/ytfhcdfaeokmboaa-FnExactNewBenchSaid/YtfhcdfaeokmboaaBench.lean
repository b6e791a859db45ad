/- Contracts at empty benches, and the law FnExactNewBench's walk. -/
import Derived.Test.YtfhcdfaeokmboaaStrA
import Derived.Test.YtfhcdfaeokmboaaMemA
namespace Go.Proofs.Ytfhcdfaeokmboaa
open Go.RowKit

set_option maxHeartbeats 1000000 in
theorem eqIntSS_nil (a a' : Option Addr) (c c' : Nat) (w : World) :
    Calls Try.prog 104 #[.slice a 0 c, .slice a' 0 c'] w fun e w' => e = .returned (.bool true) ∧ w = w' := by
  go_enter Try.func104, Try.ntmps104
  go_wp2_with fail
  refine wp_loop_rounds 1 ?_
  rw [rounds_succ]
  go_wp2_with fail
  go_ret
  exact ⟨rfl, rfl⟩

set_option maxHeartbeats 1000000 in
theorem eqResStepS_nil (a a' : Option Addr) (c c' : Nat) (w : World) :
    Calls Try.prog 62 #[.slice a 0 c, .slice a' 0 c'] w fun e w' => e = .returned (.bool true) ∧ w = w' := by
  go_enter Try.func62, Try.ntmps62
  go_wp2_with fail
  refine wp_loop_rounds 1 ?_
  rw [rounds_succ]
  go_wp2_with fail
  go_ret
  exact ⟨rfl, rfl⟩

set_option maxHeartbeats 1000000 in
theorem markIntSS_nil (a : Option Addr) (c : Nat) (m : Int) (w : World) :
    Calls Try.prog 106 #[.slice a 0 c, .int .i64 m] w fun e w' => e = .returned (.int .i64 m) ∧ w = w' := by
  go_enter Try.func106, Try.ntmps106
  go_wp2_with fail
  refine wp_loop_rounds 1 ?_
  rw [rounds_succ]
  go_wp2_with fail
  go_ret
  exact ⟨rfl, rfl⟩

set_option maxHeartbeats 1000000 in
theorem markResStepS_nil (a : Option Addr) (c : Nat) (m : Int) (w : World) :
    Calls Try.prog 64 #[.slice a 0 c, .int .i64 m] w fun e w' => e = .returned (.int .i64 m) ∧ w = w' := by
  go_enter Try.func64, Try.ntmps64
  go_wp2_with fail
  refine wp_loop_rounds 1 ?_
  rw [rounds_succ]
  go_wp2_with fail
  go_ret
  exact ⟨rfl, rfl⟩

set_option maxHeartbeats 1000000 in
theorem heldIntSS_nil (a : Option Addr) (c : Nat) (m : Int) (w : World) :
    Calls Try.prog 107 #[.slice a 0 c, .int .i64 m] w fun e w' => e = .returned (.int .i64 m) ∧ w = w' := by
  go_enter Try.func107, Try.ntmps107
  go_wp2_with fail
  refine wp_loop_rounds 1 ?_
  rw [rounds_succ]
  go_wp2_with fail
  go_ret
  exact ⟨rfl, rfl⟩

set_option maxHeartbeats 1000000 in
theorem heldResStepS_nil (a : Option Addr) (c : Nat) (m : Int) (w : World) :
    Calls Try.prog 66 #[.slice a 0 c, .int .i64 m] w fun e w' => e = .returned (.int .i64 m) ∧ w = w' := by
  go_enter Try.func66, Try.ntmps66
  go_wp2_with fail
  refine wp_loop_rounds 1 ?_
  rw [rounds_succ]
  go_wp2_with fail
  go_ret
  exact ⟨rfl, rfl⟩

/-- A bench that holds a count and nothing else. -/
def benchV (n : Int) : Value := .agg #[.int .i64 0, .int .i64 0, .slice none 0 0, .slice none 0 0, .int .i64 0, .int .i64 n]

set_option maxHeartbeats 1000000 in
theorem specNewBench_any (n : Int) (w : World) :
    Calls Try.prog 20 #[.int .i64 n] w fun e w' => e = .returned (.tuple #[.agg #[.int .i64 0, .int .i64 0, .slice none 0 0, .slice none 0 0, .int .i64 0, .int .i64 (if inB n 0 9999 then n else 0)], .bool (inB n 0 9999)]) ∧ Below w.heap.size w w' := by
  by_cases h : inB n 0 9999 = true
  · rw [if_pos h, h]
    go_enter Try.func20, Try.ntmps20
    go_wp2_with (go_at_call 60; refine (l1In_any _ _ _ _).mono ?_; rintro e w' ⟨rfl, rfl⟩)
    exact bodyPost_ret (v := .tuple #[.agg #[.int .i64 0, .int .i64 0, .slice none 0 0, .slice none 0 0, .int .i64 0, .int .i64 n], .bool true]) (by simp [results, Try.results20, go_sem]) rfl ⟨rfl, bal (bb _) _⟩
  · have h' : inB n 0 9999 = false := by simpa using h
    rw [if_neg h, h']
    clear h
    go_enter Try.func20, Try.ntmps20
    go_wp2_with (go_at_call 60; refine (l1In_any _ _ _ _).mono ?_; rintro e w' ⟨rfl, rfl⟩)
    exact bodyPost_ret (v := .tuple #[.agg #[.int .i64 0, .int .i64 0, .slice none 0 0, .slice none 0 0, .int .i64 0, .int .i64 0], .bool false]) (by simp [results, Try.results20, go_sem]) rfl ⟨rfl, bal (bb _) _⟩

set_option maxHeartbeats 1000000 in
theorem implNewBench_any (n : Int) (w : World) :
    Calls Try.prog 21 #[.int .i64 n] w fun e w' => e = .returned (.tuple #[.agg #[.int .i64 0, .int .i64 0, .slice none 0 0, .slice none 0 0, .int .i64 0, .int .i64 (if inB n 0 9999 then n else 0)], .bool (inB n 0 9999)]) ∧ Below w.heap.size w w' := by
  by_cases h : inB n 0 9999 = true
  · rw [if_pos h, h]
    go_enter Try.func21, Try.ntmps21
    go_wp2_with (go_at_call 50; refine (within_any _ _ _ _).mono ?_; rintro e w' ⟨rfl, rfl⟩)
    exact bodyPost_ret (v := .tuple #[.agg #[.int .i64 0, .int .i64 0, .slice none 0 0, .slice none 0 0, .int .i64 0, .int .i64 n], .bool true]) (by simp [results, Try.results21, go_sem]) rfl ⟨rfl, bal (bb _) _⟩
  · have h' : inB n 0 9999 = false := by simpa using h
    rw [if_neg h, h']
    clear h
    go_enter Try.func21, Try.ntmps21
    go_wp2_with (go_at_call 50; refine (within_any _ _ _ _).mono ?_; rintro e w' ⟨rfl, rfl⟩)
    exact bodyPost_ret (v := .tuple #[.agg #[.int .i64 0, .int .i64 0, .slice none 0 0, .slice none 0 0, .int .i64 0, .int .i64 0], .bool false]) (by simp [results, Try.results21, go_sem]) rfl ⟨rfl, bal (bb _) _⟩

set_option maxHeartbeats 1000000 in
theorem eqCnf_nil (n : Int) (w : World) :
    Calls Try.prog 61 #[.agg #[.int .i64 n, .slice none 0 0], .agg #[.int .i64 n, .slice none 0 0]] w fun e w' => e = .returned (.bool true) ∧ Below w.heap.size w w' := by
  go_enter Try.func61, Try.ntmps61
  go_wp2_with (go_at_call 104; refine (eqIntSS_nil _ _ _ _ _).mono ?_; rintro e w' ⟨rfl, rfl⟩)
  go_ret
  exact ⟨rfl, bal (bal (bb _) _) _⟩
set_option maxHeartbeats 1000000 in
theorem markCnf_nil (n m : Int) (w : World) :
    Calls Try.prog 63 #[.agg #[.int .i64 n, .slice none 0 0], .int .i64 m] w fun e w' => e = .returned (.int .i64 m) ∧ Below w.heap.size w w' := by
  go_enter Try.func63, Try.ntmps63
  go_wp2_with (go_at_call 106; refine (markIntSS_nil _ _ _ _).mono ?_; rintro e w' ⟨rfl, rfl⟩)
  go_ret
  exact ⟨rfl, bal (bb _) _⟩
set_option maxHeartbeats 1000000 in
theorem heldCnf_nil (n m : Int) (w : World) (h0 : 0 ≤ m) :
    Calls Try.prog 65 #[.agg #[.int .i64 n, .slice none 0 0], .int .i64 m] w fun e w' => e = .returned (.int .i64 m) ∧ Below w.heap.size w w' := by
  go_enter Try.func65, Try.ntmps65
  go_wp2_with (go_at_call 107; refine (heldIntSS_nil _ _ _ _).mono ?_; rintro e w' ⟨rfl, rfl⟩)
  go_ret
  exact ⟨rfl, bal (bb _) _⟩
set_option maxHeartbeats 1000000 in
theorem eqBench_nil (n : Int) (w : World) :
    Calls Try.prog 22 #[.agg #[.int .i64 0, .int .i64 0, .slice none 0 0, .slice none 0 0, .int .i64 0, .int .i64 n], .agg #[.int .i64 0, .int .i64 0, .slice none 0 0, .slice none 0 0, .int .i64 0, .int .i64 n]] w fun e w' => e = .returned (.bool true) ∧ Below w.heap.size w w' := by
  go_enter Try.func22, Try.ntmps22
  go_wp2_with fail
  refine (eqCnf_nil _ _).mono ?_
  rintro e w1 ⟨rfl, hb1⟩
  obtain ⟨hc1, hf1⟩ := bcell hb1
  have hs1 : w.heap.size + 1 < w1.heap.size := by have := hb1.size; simp at this; omega
  have hs2 : w.heap.size < w1.heap.size := by omega
  go_wp2_with (go_at_call 62; refine (eqResStepS_nil _ _ _ _ _).mono ?_; rintro e w' ⟨rfl, rfl⟩)
  go_ret
  exact ⟨rfl, btr (bal (bal (bb _) _) _) hb1⟩
set_option maxHeartbeats 1000000 in
theorem markBench_nil (n m : Int) (w : World) :
    Calls Try.prog 23 #[.agg #[.int .i64 0, .int .i64 0, .slice none 0 0, .slice none 0 0, .int .i64 0, .int .i64 n], .int .i64 m] w fun e w' => e = .returned (.int .i64 m) ∧ Below w.heap.size w w' := by
  go_enter Try.func23, Try.ntmps23
  go_wp2_with fail
  refine (markCnf_nil _ _ _).mono ?_
  rintro e w1 ⟨rfl, hb1⟩
  obtain ⟨hc1, hf1⟩ := bcell hb1
  have hs1 : w.heap.size < w1.heap.size := by have := hb1.size; simp at this; omega
  go_wp2_with (go_at_call 64; refine (markResStepS_nil _ _ _ _).mono ?_; rintro e w' ⟨rfl, rfl⟩)
  go_ret
  exact ⟨rfl, btr (bal (bb _) _) hb1⟩
set_option maxHeartbeats 1000000 in
theorem heldBench_nil (n m : Int) (w : World) (h0 : 0 ≤ m) :
    Calls Try.prog 24 #[.agg #[.int .i64 0, .int .i64 0, .slice none 0 0, .slice none 0 0, .int .i64 0, .int .i64 n], .int .i64 m] w fun e w' => e = .returned (.int .i64 m) ∧ Below w.heap.size w w' := by
  go_enter Try.func24, Try.ntmps24
  go_wp2_with fail
  refine (heldCnf_nil _ _ _ h0).mono ?_
  rintro e w1 ⟨rfl, hb1⟩
  obtain ⟨hc1, hf1⟩ := bcell hb1
  have hs1 : w.heap.size < w1.heap.size := by have := hb1.size; simp at this; omega
  go_wp2_with (go_at_call 66; refine (heldResStepS_nil _ _ _ _).mono ?_; rintro e w' ⟨rfl, rfl⟩)
  go_ret
  exact ⟨rfl, btr (bal (bb _) _) hb1⟩

set_option maxHeartbeats 4000000 in
theorem FnExactNewBench_walk (n : Int) (w : World) :
    Calls Try.prog 5 #[.int .i64 n] w fun e w' => e = .returned (.bool true) ∧ Below w.heap.size w w' := by
  obtain ⟨q, hq⟩ : ∃ q : Int, q = (if inB n 0 9999 then n else 0) := ⟨_, rfl⟩
  replace hq := (show Hid (q = (if inB n 0 9999 then n else 0)) from hq)
  go_enter Try.func5, Try.ntmps5
  go_wp2_with fail
  refine (specNewBench_any _ _).mono ?_
  rintro e w1 ⟨rfl, hb1⟩
  rw [← hq.out]
  go_wp2_with fail
  refine (implNewBench_any _ _).mono ?_
  rintro e w2 ⟨rfl, hb2⟩
  rw [← hq.out]
  obtain ⟨hc2, hf2⟩ := bcell hb2
  have hs2 : w1.heap.size < w2.heap.size := by have := hb2.size; simp at this; omega
  go_wp2_with fail
  refine (eqBench_nil _ _).mono ?_
  rintro e w3 ⟨rfl, hb3⟩
  obtain ⟨hc3, hf3⟩ := bcell hb3
  have hs3 : w1.heap.size < w3.heap.size ∧ w2.heap.size < w3.heap.size := by have := hb3.size; simp at this; omega
  obtain ⟨hs3a, hs3b⟩ := hs3
  go_wp2_with fail
  refine (markBench_nil _ _ _).mono ?_
  rintro e w4 ⟨rfl, hb4⟩
  obtain ⟨hc4, hf4⟩ := bcell hb4
  have hs4 : w1.heap.size < w4.heap.size ∧ w2.heap.size < w4.heap.size := by have := hb4.size; omega
  obtain ⟨hs4a, hs4b⟩ := hs4
  go_wp2_with fail
  refine (heldBench_nil _ _ _ (by decide)).mono ?_
  rintro e w5 ⟨rfl, hb5⟩
  obtain ⟨hc5, hf5⟩ := bcell hb5
  have hs5 : w1.heap.size < w5.heap.size ∧ w2.heap.size < w5.heap.size := by have := hb5.size; omega
  obtain ⟨hs5a, hs5b⟩ := hs5
  go_wp2_with fail
  refine (implNewBench_any _ _).mono ?_
  rintro e w6 ⟨rfl, hb6⟩
  rw [← hq.out]
  obtain ⟨hc6, hf6⟩ := bcell hb6
  have hs6 : w1.heap.size < w6.heap.size ∧ w2.heap.size < w6.heap.size := by have := hb6.size; omega
  obtain ⟨hs6a, hs6b⟩ := hs6
  go_wp2_with fail
  refine (eqBench_nil _ _).mono ?_
  rintro e w7 ⟨rfl, hb7⟩
  obtain ⟨hc7, hf7⟩ := bcell hb7
  have hs7 : w1.heap.size < w7.heap.size ∧ w2.heap.size < w7.heap.size := by have := hb7.size; simp at this; omega
  obtain ⟨hs7a, hs7b⟩ := hs7
  go_wp2_with fail
  refine (heldBench_nil _ _ _ (by decide)).mono ?_
  rintro e w8 ⟨rfl, hb8⟩
  go_wp2_with fail
  go_ret
  exact ⟨rfl, btr (btr (bal (btr (btr (btr (btr (bal (btr (bal (btr (bb _) hb1) _) hb2) _) hb3) hb4) hb5) hb6) _) hb7) hb8⟩
end Go.Proofs.Ytfhcdfaeokmboaa
