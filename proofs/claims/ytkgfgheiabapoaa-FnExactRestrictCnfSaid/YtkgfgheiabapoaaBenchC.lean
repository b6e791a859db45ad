/- Contracts: bench steps in the law: sized, copied, compared. -/
import Derived.Test.YtkgfgheiabapoaaBenchB
namespace Go.Proofs.Ytkgfgheiabapoaa
open Go.RowKit

set_option maxHeartbeats 400000 in
theorem szIntS_any (a : Option Addr) (l c : Nat) (n : Int) (w : World) (h0 : 0 ≤ n) (h1 : n ≤ 1048576) (hl : l ≤ 9223372036854775807) :
    Calls Try.prog 63 #[.slice a l c, .int .i64 n] w fun e w' => e = .returned (.int .i64 (if n < (l : Int) then -1 else n - l)) ∧ w = w' := by
  go_enter Try.func63, Try.ntmps63
  go_wp2
  all_goals go_ret
  all_goals exact ⟨rfl, rfl⟩

set_option maxHeartbeats 400000 in
theorem szBenchStep_any (k a b v : Int) (t : ByteArray) (ad : Option Addr) (l c : Nat) (n : Int) (w : World) (h0 : 0 ≤ n) (h1 : n ≤ 1048576) (hl : l ≤ 9223372036854775807) (ht : t.size ≤ 9223372036854775807) :
    Calls Try.prog 14 #[.agg #[.int .i64 k, .string t, .int .i64 a, .int .i64 b, .int .i64 v, .slice ad l c], .int .i64 n] w fun e w' => e = .returned (.int .i64 (if n < (t.size : Int) + l then -1 else n - t.size - l)) ∧ Below w.heap.size w w' := by
  by_cases hlt : n < (t.size : Int)
  · go_enter Try.func14, Try.ntmps14
    go_wp2
    go_ret
    exact ⟨ret_int (by first | rfl | rw [if_pos (by omega)]), bal (bb _) _⟩
  have h2 : 0 ≤ n - t.size := by omega
  have h3 : n - t.size ≤ 1048576 := by omega
  by_cases hlu : n - t.size < (l : Int)
  · go_enter Try.func14, Try.ntmps14
    go_wp2_with (go_at_call 63; refine (szIntS_any _ _ _ _ _ (by assumption) (by assumption) hl).mono ?_; rintro e w1 ⟨rfl, rfl⟩; rw [if_pos (by assumption)])
    go_ret
    exact ⟨ret_int (by first | rfl | rw [if_pos (by omega)]), bal (bb _) _⟩
  · have h4 : 0 ≤ n - t.size - l := by omega
    go_enter Try.func14, Try.ntmps14
    go_wp2_with (go_at_call 63; refine (szIntS_any _ _ _ _ _ (by assumption) (by assumption) hl).mono ?_; rintro e w1 ⟨rfl, rfl⟩; rw [if_neg (by omega)])
    go_ret
    exact ⟨ret_int (by first | rfl | rw [if_neg (by omega)]), bal (bb _) _⟩

theorem row_set {α : Type} {T : Ty α} {wr : Bool} {w : World} {v : Value} {xs : List α} {F : List Nat} (h : T.row wr w v xs F) {p : Addr} (hp : p.block ∉ F) (u : Value) : T.row wr (w.setCell p u) v xs F :=
  Ty.row_keep h fun _ hb => Below.heap_setCell _ _ _ _ (fun e => hp (e ▸ hb))

def BenchStepOwn (w : World) (k a b v : Int) (t : ByteArray) (xs : List Int) (e : Ending) (w' : World) : Prop :=
  ∃ u F, e = .returned (.agg #[.int .i64 k, .string t, .int .i64 a, .int .i64 b, .int .i64 v, u]) ∧ Ty.int.row true w' u xs F ∧ (∀ b ∈ F, w.heap.size ≤ b) ∧ Below w.heap.size w w'

set_option maxHeartbeats 1000000 in
theorem toBenchStep_any (k a b v : Int) (t : ByteArray) (u : Value) (xs : List Int) (F : List Nat) (w : World) (hx : Ty.int.row false w u xs F) (h1 : xs.length ≤ 1000000000) :
    Calls Try.prog 16 #[.agg #[.int .i64 k, .string t, .int .i64 a, .int .i64 b, .int .i64 v, u]] w (BenchStepOwn w k a b v t xs) := by
  go_enter Try.func16, Try.ntmps16
  go_wp2_with fail
  refine (toIntS_any u xs F _ (Ty.row_grow hx (by repeat (first | exact bb _ | refine bal ?_ _ | refine bst ?_ (by simp) _))) h1).mono ?_
  rintro e w1 ⟨u', F', rfl, hu, _, hF, hb1⟩
  obtain ⟨a', c', rfl, hq1, hq2⟩ := Ty.row_len hu
  obtain ⟨hc1, hf1⟩ := bcell hb1
  have hs1 : w.heap.size + 2 < w1.heap.size := by have := hb1.size; simp at this; omega
  have hs2 : w.heap.size + 1 < w1.heap.size := by omega
  go_wp2_with fail
  refine bodyPost_ret (v := .agg #[.int .i64 k, .string t, .int .i64 a, .int .i64 b, .int .i64 v, .slice a' xs.length c']) (by simp [results, Try.results16, go_sem, hc1]) rfl ⟨_, F', rfl, ?_, ?_, ?_⟩
  · repeat (refine row_set ?_ (by intro h; have := hF _ h; simp at this; omega) _)
    exact hu
  · intro b hb; have := hF b hb; simp at this; omega
  · repeat (refine bst ?_ (by simp <;> omega) _)
    refine btr ?_ hb1
    repeat (refine bal ?_ _)
    exact bb _

set_option maxHeartbeats 1000000 in
theorem eqBenchStep_same (k a b v : Int) (t : ByteArray) (u u' : Value) (xs : List Int) (F G : List Nat) (w : World) (hx : Ty.int.row false w u xs F) (hy : Ty.int.row false w u' xs G) :
    Calls Try.prog 18 #[.agg #[.int .i64 k, .string t, .int .i64 a, .int .i64 b, .int .i64 v, u], .agg #[.int .i64 k, .string t, .int .i64 a, .int .i64 b, .int .i64 v, u']] w fun e w' => e = .returned (.bool true) ∧ Below w.heap.size w w' := by
  go_enter Try.func18, Try.ntmps18
  go_wp2_with fail
  refine (eqIntS_any _ _ xs xs F G _ (Ty.row_grow hx (bal (bal (bb _) _) _)) (Ty.row_grow hy (bal (bal (bb _) _) _))).mono ?_
  rintro e w1 ⟨he, hb1⟩
  obtain rfl : e = .returned (.bool true) := by rw [he]; simp
  clear he
  go_wp2_with fail
  go_ret
  exact ⟨rfl, btr (bal (bal (bb _) _) _) hb1⟩
end Go.Proofs.Ytkgfgheiabapoaa
