/- Contracts for bench steps. -/
import Derived.Test.YtkgfgheiabapoaaStrA
import Derived.Test.YtkgfgheiabapoaaMemB
namespace Go.Proofs.Ytkgfgheiabapoaa
open Go.RowKit


set_option maxHeartbeats 400000 in
theorem l32Plain_load (k a b v : Int) (t : ByteArray) (ad : Option Addr) (n c : Nat) (w : World) :
    Calls Try.prog 123 #[.agg #[.int .i64 k, .string t, .int .i64 a, .int .i64 b, .int .i64 v, .slice ad n c], .bool true, .bool false, .bool false, .bool false, .bool false] w fun e w' => e = .returned (.bool ((a == 0) && (b == 0) && (v == 0) && ((n : Int) == 0))) ∧ Below w.heap.size w w' := by
  go_enter Try.func123, Try.ntmps123
  go_wp2
  all_goals go_ret
  all_goals exact ⟨ret_bool (by simp [*]), bal (bb _) _⟩


set_option maxHeartbeats 400000 in
theorem l32Plain_one (k a b v : Int) (t : ByteArray) (ad : Option Addr) (n c : Nat) (w : World) :
    Calls Try.prog 123 #[.agg #[.int .i64 k, .string t, .int .i64 a, .int .i64 b, .int .i64 v, .slice ad n c], .bool false, .bool true, .bool false, .bool false, .bool false] w fun e w' => e = .returned (.bool ((bl t).isEmpty && (b == 0) && (v == 0) && ((n : Int) == 0))) ∧ Below w.heap.size w w' := by
  go_enter Try.func123, Try.ntmps123
  go_wp2
  all_goals go_ret
  all_goals exact ⟨ret_bool (by simp [*]), bal (bb _) _⟩


set_option maxHeartbeats 400000 in
theorem l32Plain_res (k a b v : Int) (t : ByteArray) (ad : Option Addr) (n c : Nat) (w : World) :
    Calls Try.prog 123 #[.agg #[.int .i64 k, .string t, .int .i64 a, .int .i64 b, .int .i64 v, .slice ad n c], .bool false, .bool true, .bool true, .bool true, .bool false] w fun e w' => e = .returned (.bool ((bl t).isEmpty && ((n : Int) == 0))) ∧ Below w.heap.size w w' := by
  go_enter Try.func123, Try.ntmps123
  go_wp2
  all_goals go_ret
  all_goals exact ⟨ret_bool (by simp [*]), bal (bb _) _⟩


set_option maxHeartbeats 400000 in
theorem l32Plain_weak (k a b v : Int) (t : ByteArray) (ad : Option Addr) (n c : Nat) (w : World) :
    Calls Try.prog 123 #[.agg #[.int .i64 k, .string t, .int .i64 a, .int .i64 b, .int .i64 v, .slice ad n c], .bool false, .bool true, .bool false, .bool false, .bool true] w fun e w' => e = .returned (.bool ((bl t).isEmpty && (b == 0) && (v == 0))) ∧ Below w.heap.size w w' := by
  go_enter Try.func123, Try.ntmps123
  go_wp2
  all_goals go_ret
  all_goals exact ⟨ret_bool (by simp [*]), bal (bb _) _⟩


set_option maxHeartbeats 400000 in
theorem l32Plain_restr (k a b v : Int) (t : ByteArray) (ad : Option Addr) (n c : Nat) (w : World) :
    Calls Try.prog 123 #[.agg #[.int .i64 k, .string t, .int .i64 a, .int .i64 b, .int .i64 v, .slice ad n c], .bool false, .bool false, .bool false, .bool true, .bool false] w fun e w' => e = .returned (.bool ((bl t).isEmpty && (a == 0) && (b == 0) && ((n : Int) == 0))) ∧ Below w.heap.size w w' := by
  go_enter Try.func123, Try.ntmps123
  go_wp2
  all_goals go_ret
  all_goals exact ⟨ret_bool (by simp [*]), bal (bb _) _⟩


set_option maxHeartbeats 400000 in
theorem l32Plain_none (k a b v : Int) (t : ByteArray) (ad : Option Addr) (n c : Nat) (w : World) :
    Calls Try.prog 123 #[.agg #[.int .i64 k, .string t, .int .i64 a, .int .i64 b, .int .i64 v, .slice ad n c], .bool false, .bool false, .bool false, .bool false, .bool false] w fun e w' => e = .returned (.bool ((bl t).isEmpty && (a == 0) && (b == 0) && (v == 0) && ((n : Int) == 0))) ∧ Below w.heap.size w w' := by
  go_enter Try.func123, Try.ntmps123
  go_wp2
  all_goals go_ret
  all_goals exact ⟨ret_bool (by simp [*]), bal (bb _) _⟩

end Go.Proofs.Ytkgfgheiabapoaa