/- Contracts: valid Cnfs and widths, in the program. -/
import Derived.Test.YtebpknekaljgnaaClC
namespace Go.Proofs.Ytebpknekaljgnaa
open Go.RowKit

set_option maxHeartbeats 1000000 in
theorem narrowOk_any (vars width : Int) (v : Value) (F0 : List (List Int)) (F : List Nat) (w : World) (hx : (Ty.slice Ty.int).row false w v F0 F) :
    Calls Try.prog 33 #[.agg #[.int .i64 vars, v], .int .i64 width] w fun e w' => e = .returned (.bool (goodB vars F0 && decide (vars ≤ 6) && inB width 0 6)) ∧ Below w.heap.size w w' := by
  obtain ⟨a, c, rfl, _, _⟩ := Ty.row_len hx
  cases hg : goodB vars F0
  · go_enter Try.func33, Try.ntmps33
    go_wp2_with fail
    refine (implIsCnf_any vars _ F0 F _ (Ty.row_grow hx (bal (bb _) _))).mono ?_
    rw [hg]
    rintro e w1 ⟨rfl, hb1⟩
    have hB := btr (bal (bb w) (.cells #[.int .i64 vars, .slice a F0.length c] 29)) hb1
    go_wp2_with fail
    go_ret
    exact ⟨rfl, hB⟩
  by_cases h6 : vars ≤ 6
  · have hd := decide_eq_true h6
    go_enter Try.func33, Try.ntmps33
    go_wp2_with fail
    refine (implIsCnf_any vars _ F0 F _ (Ty.row_grow hx (bal (bb _) _))).mono ?_
    rw [hg]
    rintro e w1 ⟨rfl, hb1⟩
    have hB := btr (bal (bb w) (.cells #[.int .i64 vars, .slice a F0.length c] 29)) hb1
    have k0 := ((bcell hb1).1 w.heap.size 0 (by simp)).trans (show (w.alloc (.cells #[.int .i64 vars, .slice a F0.length c] 29)).cell? ⟨w.heap.size, 0, none⟩ = some (.int .i64 vars) by simp [go_sem])
    go_wp2_with (go_at_call 56; refine (within_any _ _ _ _).mono ?_; rintro e w2 ⟨rfl, rfl⟩)
    go_ret
    exact ⟨ret_bool (by simp [h6]), hB⟩
  · have hd := decide_eq_false h6
    go_enter Try.func33, Try.ntmps33
    go_wp2_with fail
    refine (implIsCnf_any vars _ F0 F _ (Ty.row_grow hx (bal (bb _) _))).mono ?_
    rw [hg]
    rintro e w1 ⟨rfl, hb1⟩
    have hB := btr (bal (bb w) (.cells #[.int .i64 vars, .slice a F0.length c] 29)) hb1
    have k0 := ((bcell hb1).1 w.heap.size 0 (by simp)).trans (show (w.alloc (.cells #[.int .i64 vars, .slice a F0.length c] 29)).cell? ⟨w.heap.size, 0, none⟩ = some (.int .i64 vars) by simp [go_sem])
    go_wp2_with fail
    go_ret
    exact ⟨ret_bool (by simp; omega), hB⟩
end Go.Proofs.Ytebpknekaljgnaa
