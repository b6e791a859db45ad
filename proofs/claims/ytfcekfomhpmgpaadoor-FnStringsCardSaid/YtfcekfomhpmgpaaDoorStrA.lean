/- Contracts of small functions on numbers and bytes. -/
import Derived.Test.YtfcekfomhpmgpaaDoorProg
import Derived.Test.YtfcekfomhpmgpaaDoorPlA
import Derived.WalkKit
import Derived.WalkLawsBesides
import Derived.WalkSpells
namespace Go.Proofs.YtfcekfomhpmgpaaDoor
open Go.RowKit

set_option maxHeartbeats 400000 in
theorem l1In_any (x a b : Int) (w : World) :
    Calls Tryd.prog 63 #[.int .i64 x, .int .i64 a, .int .i64 b] w fun e w' => e = .returned (.bool (inB x a b)) ∧ w = w' := by
  by_cases h : a ≤ x
  · go_enter Tryd.func63, Tryd.ntmps63
    go_wp2
    go_ret
    exact ⟨ret_bool (by simp [inB, h]), rfl⟩
  · go_enter Tryd.func63, Tryd.ntmps63
    go_wp2
    go_ret
    exact ⟨ret_bool (by simp [inB]; omega), rfl⟩

set_option maxHeartbeats 400000 in
theorem within_any (x a b : Int) (w : World) :
    Calls Tryd.prog 66 #[.int .i64 x, .int .i64 a, .int .i64 b] w fun e w' => e = .returned (.bool (inB x a b)) ∧ w = w' := by
  by_cases h : a ≤ x
  · go_enter Tryd.func66, Tryd.ntmps66
    go_wp2
    go_ret
    exact ⟨ret_bool (by simp [inB, h]), rfl⟩
  · go_enter Tryd.func66, Tryd.ntmps66
    go_wp2
    go_ret
    exact ⟨ret_bool (by simp [inB]; omega), rfl⟩

set_option maxHeartbeats 400000 in
theorem l1Stands_any (s : ByteArray) (b : Int) (w : World) (hs : s.size ≤ 9223372036854775806) :
    Calls Tryd.prog 83 #[.string s, .int .u8 b] w fun e w' => e = .returned (.bool (hasB (bl s) b)) ∧ w = w' := by
  go_enter Tryd.func83, Tryd.ntmps83
  go_wp2
  go_loop [5] (fun i => ∃ k : Nat, k ≤ s.size ∧ i = .int .i64 k ∧ Hid (hasB ((bl s).take k) b = false)) (fun i => s.size - (intOf i).toNat)
  case atStart => exact ⟨0, Nat.zero_le _, rfl, by simp [Hid, hasB]⟩
  case round =>
    obtain ⟨k, hk, rfl, HR⟩ := hrel
    by_cases hlt : k < s.size
    · have HS : Hid (hasB ((bl s).take (k + 1)) b = ((s[k].toNat : Int) == b)) := by
        unfold Hid; rw [bl_take_succ s k hlt, hasB_snoc, HR.out]; rfl
      go_wp2
      · go_ret
        exact ⟨ret_bool (hasB_true_of_take (k := k + 1) (by rw [HS.out]; assumption)).symm, rfl⟩
      · go_round
        case rel => exact ⟨k + 1, by omega, by go_num, by unfold Hid; rw [HS.out]; assumption⟩
        case measure => simp [intOf]; omega
    · go_wp2
      go_ret
      exact ⟨ret_bool (by have := HR.out; rw [bl_take_all s k (by omega)] at this; exact this.symm), rfl⟩
end Go.Proofs.YtfcekfomhpmgpaaDoor
