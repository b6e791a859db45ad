/- Contracts: the bytes of a record, in the reference. -/
import Derived.Test.YtfcekfomhpmgpaaDoorStrA
import Derived.Test.YtfcekfomhpmgpaaDoorPlC
namespace Go.Proofs.YtfcekfomhpmgpaaDoor
open Go.RowKit

set_option maxHeartbeats 400000 in
theorem l33Plain_any (s : ByteArray) (m : Int) (w : World) (hs : s.size ≤ 9223372036854775806) :
    Calls Tryd.prog 93 #[.string s, .int .i64 m] w fun e w' => e = .returned (.bool (plainB (bl s) m)) ∧ w = w' := by
  go_enter Tryd.func93, Tryd.ntmps93
  go_wp2
  go_loop [5] (fun i => ∃ k : Nat, k ≤ s.size ∧ i = .int .i64 k ∧ Hid (allB ((bl s).take k) = true)) (fun i => s.size - (intOf i).toNat)
  case atStart => exact ⟨0, Nat.zero_le _, rfl, by simp [Hid, allB]⟩
  case round =>
    obtain ⟨k, hk, rfl, HR⟩ := hrel
    by_cases hlt : k < s.size
    · have HS : Hid (allB ((bl s).take (k + 1)) = (inB s[k].toNat 32 126 && !((s[k].toNat : Int) == 35))) := by
        unfold Hid; rw [bl_take_succ s k hlt, allB_snoc, HR.out]; rfl
      have hb : (s[k].toNat : Int) ≤ 255 := by have := s[k].toNat_lt; omega
      by_cases h1 : inB s[k].toNat 32 126 = true
      · by_cases h2 : ((s[k].toNat : Int) == 35) = true
        · go_wp2_with (go_at_call 63; refine (l1In_any _ _ _ _).mono ?_; rintro e w' ⟨rfl, rfl⟩)
          go_ret
          exact ⟨ret_bool (by rw [plainB, allB_false_of_take (k := k + 1) (by rw [HS.out, h1, h2]; rfl)]; rfl), rfl⟩
        · have h2' : ((s[k].toNat : Int) == 35) = false := by simpa using h2
          clear h2
          go_wp2_with (go_at_call 63; refine (l1In_any _ _ _ _).mono ?_; rintro e w' ⟨rfl, rfl⟩)
          go_round
          case rel => exact ⟨k + 1, by omega, by go_num, by unfold Hid; rw [HS.out, h1, h2']; rfl⟩
          case measure => simp [intOf]; omega
      · have h1' : inB s[k].toNat 32 126 = false := by simpa using h1
        clear h1
        go_wp2_with (go_at_call 63; refine (l1In_any _ _ _ _).mono ?_; rintro e w' ⟨rfl, rfl⟩)
        go_ret
        exact ⟨ret_bool (by rw [plainB, allB_false_of_take (k := k + 1) (by rw [HS.out, h1']; rfl)]; rfl), rfl⟩
    · have HS : Hid (allB (bl s) = true) := by have := HR.out; rwa [bl_take_all s k (by omega)] at this
      clear HR
      go_wp2
      go_ret
      exact ⟨ret_bool (by rw [plainB, HS.out, bl_length]; rfl), rfl⟩


set_option maxHeartbeats 1000000 in
theorem l33Good_any (c r : ByteArray) (w : World) (hc : c.size ≤ 9223372036854775806) (hr : r.size ≤ 9223372036854775806) :
    Calls Tryd.prog 64 #[.agg #[.string c, .string r]] w fun e w' => e = .returned (.bool (goodB (bl c) (bl r))) ∧ Below w.heap.size w w' := by
  have hB := (Below.refl w.heap.size w).alloc (Nat.le_refl _)
  by_cases h0 : (bl c).isEmpty = true
  · go_enter Tryd.func64, Tryd.ntmps64
    go_wp2_with fail
    go_ret
    exact ⟨ret_bool (by rw [goodB, h0]; rfl), hB _⟩
  have h0' : (bl c).isEmpty = false := by simpa using h0
  clear h0
  by_cases h1 : plainB (bl c) 160 = true
  case neg =>
    have h1' : plainB (bl c) 160 = false := by simpa using h1
    clear h1
    go_enter Tryd.func64, Tryd.ntmps64
    go_wp2_with (first
      | (go_at_call 93; refine (l33Plain_any _ _ _ (by assumption)).mono ?_; rintro e w' ⟨rfl, rfl⟩)
      | (go_at_call 83; refine (l1Stands_any _ _ _ (by assumption)).mono ?_; rintro e w' ⟨rfl, rfl⟩))
    go_ret
    exact ⟨ret_bool (by rw [goodB, h0', h1']; rfl), hB _⟩
  by_cases h2 : hasB (bl c) 64 = true
  · go_enter Tryd.func64, Tryd.ntmps64
    go_wp2_with (first
      | (go_at_call 93; refine (l33Plain_any _ _ _ (by assumption)).mono ?_; rintro e w' ⟨rfl, rfl⟩)
      | (go_at_call 83; refine (l1Stands_any _ _ _ (by assumption)).mono ?_; rintro e w' ⟨rfl, rfl⟩))
    go_ret
    exact ⟨ret_bool (by rw [goodB, h0', h1, h2]; rfl), hB _⟩
  have h2' : hasB (bl c) 64 = false := by simpa using h2
  clear h2
  go_enter Tryd.func64, Tryd.ntmps64
  go_wp2_with (first
    | (go_at_call 93; refine (l33Plain_any _ _ _ (by assumption)).mono ?_; rintro e w' ⟨rfl, rfl⟩)
    | (go_at_call 83; refine (l1Stands_any _ _ _ (by assumption)).mono ?_; rintro e w' ⟨rfl, rfl⟩))
  go_ret
  exact ⟨ret_bool (by rw [goodB, h0', h1, h2']; rfl), hB _⟩

set_option maxHeartbeats 400000 in
theorem specIsValidRecord_any (c r : ByteArray) (w : World) (hc : c.size ≤ 9223372036854775806) (hr : r.size ≤ 9223372036854775806) :
    Calls Tryd.prog 53 #[.agg #[.string c, .string r]] w fun e w' => e = .returned (.bool (goodB (bl c) (bl r))) ∧ Below w.heap.size w w' := by
  go_enter Tryd.func53, Tryd.ntmps53
  go_wp2_with (go_at_call 64; refine (l33Good_any _ _ _ (by assumption) (by assumption)).mono ?_; rintro e w' ⟨rfl, hb⟩)
  go_ret
  exact ⟨rfl, ((Below.refl _ _).alloc (Nat.le_refl _) _).trans (hb.mono (by simp))⟩

set_option maxHeartbeats 400000 in
theorem toLogRecord_any (c r : ByteArray) (w : World) :
    Calls Tryd.prog 17 #[.agg #[.string c, .string r]] w fun e w' => e = .returned (.agg #[.string c, .string r]) ∧ Below w.heap.size w w' := by
  go_enter Tryd.func17, Tryd.ntmps17
  go_wp2
  exact bodyPost_ret (v := .agg #[.string c, .string r]) (by simp [results, Tryd.results17, go_sem]) rfl ⟨rfl, bal (bal (bal (bb _) _) _) _⟩

set_option maxHeartbeats 400000 in
theorem szLogRecord_any (c r : ByteArray) (n : Int) (w : World) (h0 : 0 ≤ n) (h1 : n ≤ 1048576) (hc : c.size ≤ 9223372036854775807) (hr : r.size ≤ 9223372036854775807) :
    Calls Tryd.prog 15 #[.agg #[.string c, .string r], .int .i64 n] w fun e w' => e = .returned (.int .i64 (if n < c.size + r.size then -1 else n - (c.size + r.size))) ∧ Below w.heap.size w w' := by
  go_enter Tryd.func15, Tryd.ntmps15
  go_wp2
  all_goals go_ret
  · exact ⟨rfl, bal (bb _) _⟩
  · exact ⟨rfl, bal (bb _) _⟩
  · exact ⟨ret_int (by omega), bal (bb _) _⟩
end Go.Proofs.YtfcekfomhpmgpaaDoor
