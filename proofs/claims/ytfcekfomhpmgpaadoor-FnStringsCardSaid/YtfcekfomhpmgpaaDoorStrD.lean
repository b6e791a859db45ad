/- Contracts: decimals, checksums and sealed strings, in the reference. -/
import Derived.Test.YtfcekfomhpmgpaaDoorStrB
import Derived.Test.YtfcekfomhpmgpaaDoorPlB
import Derived.Lib.QuietBelow
import Derived.BigQuiet
namespace Go.Proofs.YtfcekfomhpmgpaaDoor
open Go.RowKit

theorem ret_str {s t : ByteArray} (h : s = t) : Ending.returned (.string s) = .returned (.string t) := by rw [h]

/-- One decimal digit. -/
def dgB (n : Int) : List UInt8 := [UInt8.ofNat (48 + n.toNat)]
theorem dgB_length (n : Int) : (dgB n).length = 1 := rfl

theorem digit_int (n : Int) (h0 : 0 ≤ n) (h : n < 10) : (ByteArray.mk #[48, 49, 50, 51, 52, 53, 54, 55, 56, 57]).extract n.toNat (n + 1).toNat = ms (dgB n) := by
  unfold dgB
  rw [show (n + 1).toNat = n.toNat + 1 by omega]
  exact digit_at _ (by omega)

set_option maxHeartbeats 400000 in
theorem l1Num_nat (k : Nat) : ∀ (n : Int) (w : World), 0 ≤ n → n ≤ 1000000000000 → n.toNat ≤ k →
    Calls Tryd.prog 75 #[.int .i64 n] w fun e w' => e = .returned (.string (ms (Lib.decDigits n.toNat))) ∧ Below w.heap.size w w' := by
  induction k with
  | zero =>
    intro n w h0 hb hk
    have h : n < 10 := by omega
    go_enter Tryd.func75, Tryd.ntmps75
    go_wp2_with fail
    go_ret
    exact ⟨ret_str (by rw [Lib.decDigits, dif_pos (by omega)]; exact digit_int n h0 h), bb _⟩
  | succ k ih =>
    intro n w h0 hb hk
    by_cases h : n < 10
    · go_enter Tryd.func75, Tryd.ntmps75
      go_wp2_with fail
      go_ret
      exact ⟨ret_str (by rw [Lib.decDigits, dif_pos (by omega)]; exact digit_int n h0 h), bb _⟩
    · have hl : (Lib.decDigits (n / 10).toNat).length ≤ 13 := decDigits_len 12 _ (by omega)
      have hm1 : 0 ≤ n % 10 := by omega
      have hm2 : n % 10 < 10 := by omega
      have e4 := digit_int (n % 10) hm1 hm2
      have e5 := fun w => run_add (P := Tryd.prog) w (ms (Lib.decDigits (n / 10).toNat)) (ms (dgB (n % 10))) (by rw [ms_size, ms_size, dgB_length]; omega)
      have e6 : Hid (bl (ms (Lib.decDigits (n / 10).toNat)) ++ bl (ms (dgB (n % 10))) = Lib.decDigits n.toNat) := by
        rw [bl_ms, bl_ms, decDigits_big (u := n.toNat) (by omega)]
        unfold Hid dgB
        rw [show n.toNat / 10 = (n / 10).toNat by omega, show n.toNat % 10 = (n % 10).toNat by omega]
      have q1 : 0 ≤ n / 10 := by omega
      have q2 : n / 10 ≤ 1000000000000 := by omega
      have q3 : (n / 10).toNat ≤ k := by omega
      have e1 : IntKind.i64.wrap (n.tdiv 10) = n / 10 := by rw [Int.tdiv_eq_ediv_of_nonneg h0]; exact IntWalk.i64_in _ (by omega)
      have e2 : IntKind.i64.wrap (n.tmod 10) = n % 10 := by rw [Int.tmod_eq_emod_of_nonneg h0]; exact IntWalk.i64_in _ (by clear e1; omega)
      have e3 : IntKind.i64.wrap (n % 10 + 1) = n % 10 + 1 := IntWalk.i64_in _ (by clear e1 e2; omega)
      go_enter Tryd.func75, Tryd.ntmps75
      go_wp2_with fail
      refine wp_region_quiet_below (by kernel_rfl) (by kernel_rfl) ?_
      repeat (any_goals (first | go_big_quiet_step ((go_at_call 75; exact Calls.regrown_of (ih (n / 10) _ q1 q2 q3))) | quiet_step ((go_at_call 75; exact Calls.regrown_of (ih (n / 10) _ q1 q2 q3)))))
      refine wpQuiet_nil ?_
      rintro w1 ⟨p, rfl⟩
      go_wp2_with fail
      go_ret
      exact ⟨ret_str (congrArg ms e6.out), below_regrown _ _ _⟩

theorem l1Num_pos (n : Int) (w : World) (h0 : 0 ≤ n) (h1 : n ≤ 1000000000000) :
    Calls Tryd.prog 75 #[.int .i64 n] w fun e w' => e = .returned (.string (ms (Lib.itoa n))) ∧ Below w.heap.size w w' := by
  have e : Lib.itoa n = Lib.decDigits n.toNat := by rw [Lib.itoa, if_neg (by omega)]
  rw [e]
  exact l1Num_nat n.toNat n w h0 h1 (Nat.le_refl _)

set_option maxHeartbeats 400000 in
theorem l1Num_any (n : Int) (w : World) (h0 : -1000000000000 ≤ n) (h1 : n ≤ 1000000000000) :
    Calls Tryd.prog 75 #[.int .i64 n] w fun e w' => e = .returned (.string (ms (Lib.itoa n))) ∧ Below w.heap.size w w' := by
  by_cases hn : n < 0
  · have hl : (Lib.itoa (-n)).length ≤ 13 := by
      rw [Lib.itoa, if_neg (by omega)]; exact decDigits_len 12 _ (by omega)
    have e6 : Hid (45 :: Lib.itoa (-n) = Lib.itoa n) := by
      unfold Hid
      rw [Lib.itoa, if_neg (by omega), Lib.itoa, if_pos hn, show n.natAbs = (-n).toNat by omega]
    go_enter Tryd.func75, Tryd.ntmps75
    go_wp2_with (go_at_call 75; refine (l1Num_pos (-n) _ (by omega) (by omega)).mono ?_; rintro e w1 ⟨rfl, hb1⟩)
    go_ret
    exact ⟨ret_str (by apply bl_inj; rw [bl_ms, ← e6.out]; simp [bl_append, bl_ms, bl_lit]), by assumption⟩
  · exact l1Num_pos n w (by omega) h1

set_option maxHeartbeats 400000 in
theorem l1Sum_any (s : ByteArray) (w : World) (hs : s.size ≤ 9223372036854775806) :
    Calls Tryd.prog 103 #[.string s] w fun e w' => e = .returned (.int .i64 (sumB (bl s))) ∧ w = w' := by
  go_enter Tryd.func103, Tryd.ntmps103
  go_wp2
  go_loop [3, 4] (fun n i => ∃ k : Nat, k ≤ s.size ∧ i = .int .i64 k ∧ n = .int .i64 (sumB ((bl s).take k))) (fun _ i => s.size - (intOf i).toNat)
  case atStart => exact ⟨0, Nat.zero_le _, rfl, rfl⟩
  case round =>
    obtain ⟨k, hk, rfl, rfl⟩ := hrel
    by_cases hlt : k < s.size
    · have HS : Hid (sumB ((bl s).take (k + 1)) = (41 * sumB ((bl s).take k) + s[k].toNat + 1) % 999979) := by
        unfold Hid; rw [bl_take_succ s k hlt, sumB_snoc]
      have hr := sumB_range ((bl s).take k)
      obtain ⟨r0, r1⟩ := hr
      have hb : (s[k].toNat : Int) ≤ 255 := by have := s[k].toNat_lt; omega
      go_wp2
      go_round
      case rel => exact ⟨k + 1, by omega, by go_num, by rw [HS.out]⟩
      case measure => simp [intOf]; omega
    · go_wp2
      go_ret
      exact ⟨ret_int (by rw [bl_take_all s k (by omega)]), rfl⟩

set_option maxHeartbeats 400000 in
theorem l1Seal_any (s : ByteArray) (w : World) (hs : s.size ≤ 9223372036854775700) :
    Calls Tryd.prog 84 #[.string s] w fun e w' => e = .returned (.string (ms (sealB (bl s)))) ∧ Below w.heap.size w w' := by
  have hr := sumB_range (bl s)
  have hl := itoa_len hr.1 (by omega)
  obtain ⟨r0, r1⟩ := hr
  go_enter Tryd.func84, Tryd.ntmps84
  go_wp2_with (first
    | (go_at_call 103; refine (l1Sum_any _ _ (by omega)).mono ?_; rintro e w1 ⟨rfl, rfl⟩)
    | (go_at_call 75; refine (l1Num_pos _ _ r0 (by omega)).mono ?_; rintro e w1 ⟨rfl, hb1⟩))
  go_ret
  exact ⟨ret_str (by apply bl_inj; simp [bl_append, bl_ms, bl_lit, sealB]), by assumption⟩

set_option maxHeartbeats 1000000 in
theorem l33Line_any (k : Int) (c r : ByteArray) (w : World) (h0 : 0 ≤ k) (h1 : k ≤ 1000000000000) (hc : c.size ≤ 1000000000000) (hr : r.size ≤ 1000000000000) :
    Calls Tryd.prog 65 #[.int .i64 k, .agg #[.string c, .string r]] w fun e w' => e = .returned (.string (ms (lineB k (bl c) (bl r)))) ∧ Below w.heap.size w w' := by
  go_enter Tryd.func65, Tryd.ntmps65
  go_wp2_with fail
  have k0 := cell_regrown (w := w.alloc (.cells #[.string c, .string r] 27)) (a := ⟨w.heap.size, 0, none⟩) (v := .string c) (by simp)
  have k1 := cell_regrown (w := w.alloc (.cells #[.string c, .string r] 27)) (a := ⟨w.heap.size, 1, none⟩) (v := .string r) (by simp)
  have hl : (Lib.itoa k).length ≤ 13 := by rw [Lib.itoa, if_neg (by omega)]; exact decDigits_len 12 _ (by omega)
  have o1 : (ByteArray.mk #[32]).size = 1 := rfl
  have o2 : (ByteArray.mk #[64]).size = 1 := rfl
  have hz : (ms (Lib.itoa k) ++ ⟨#[32]⟩ ++ c ++ ⟨#[64]⟩ ++ r).size ≤ 9223372036854775700 := by
    simp only [ByteArray.size_append, ms_size]; omega
  have hz2 : (sealB (bl (ms (Lib.itoa k) ++ ⟨#[32]⟩ ++ c ++ ⟨#[64]⟩ ++ r))).length ≤ 3000000000000 := by
    have := sealB_length (bl (ms (Lib.itoa k) ++ ⟨#[32]⟩ ++ c ++ ⟨#[64]⟩ ++ r))
    rw [bl_length] at this
    simp only [ByteArray.size_append, ms_size] at this; omega
  clear o1 o2
  refine wp_region_quiet_below (by kernel_rfl) (by kernel_rfl) ?_
  repeat (any_goals (first
    | go_big_quiet_step ((first
      | (go_at_call 75; exact Calls.regrown_of (l1Num_pos k _ h0 h1))
      | (go_at_call 84; exact Calls.regrown_of (l1Seal_any _ _ hz))))))
  refine wpQuiet_nil ?_
  rintro w1 ⟨p, rfl⟩
  go_wp2_with fail
  go_ret
  refine ⟨ret_str ?_, btr (bal (bb _) _) (below_regrown _ _ _)⟩
  apply bl_inj
  simp [bl_append, bl_ms, lineB, bl_lit]

set_option maxHeartbeats 1000000 in
theorem specEncodeRecord_any (k : Int) (c r : ByteArray) (w : World) (hc : c.size ≤ 1000000000000) (hr : r.size ≤ 1000000000000) :
    Calls Tryd.prog 16 #[.int .i64 k, .agg #[.string c, .string r]] w fun e w' => e = .returned (.tuple #[.string (ms (encB k (bl c) (bl r)).1), .bool (encB k (bl c) (bl r)).2]) ∧ Below w.heap.size w w' := by
  by_cases h0 : inB k 0 59 = true
  case neg =>
    have h0' : inB k 0 59 = false := by simpa using h0
    clear h0
    go_enter Tryd.func16, Tryd.ntmps16
    go_wp2_with (go_at_call 63; refine (l1In_any _ _ _ _).mono ?_; rintro e w' ⟨rfl, rfl⟩)
    go_ret2
    exact ⟨by rw [encB, h0']; rfl, bal (bb _) _⟩
  by_cases h1 : goodB (bl c) (bl r) = true
  case neg =>
    have h1' : goodB (bl c) (bl r) = false := by simpa using h1
    clear h1
    go_enter Tryd.func16, Tryd.ntmps16
    go_wp2_with (first
      | (go_at_call 63; refine (l1In_any _ _ _ _).mono ?_; rintro e w' ⟨rfl, rfl⟩)
      | (go_at_call 64; refine (l33Good_any _ _ _ (by omega) (by omega)).mono ?_; rintro e w1 ⟨rfl, hb1⟩))
    go_ret2
    exact ⟨by rw [encB, h0, h1']; rfl, btr (bal (bb _) _) (by assumption)⟩
  have hk := inB_true.1 h0
  obtain ⟨hk0, hk1⟩ := hk
  go_enter Tryd.func16, Tryd.ntmps16
  go_wp2_with (first
    | (go_at_call 63; refine (l1In_any _ _ _ _).mono ?_; rintro e w' ⟨rfl, rfl⟩)
    | (go_at_call 64; refine (l33Good_any _ _ _ (by omega) (by omega)).mono ?_; rintro e w1 ⟨rfl, hb1⟩; obtain ⟨hc1, hf1⟩ := bcell hb1; have hs1 : w.heap.size < w1.heap.size := by have := hb1.size; simp at this; omega)
    | (go_at_call 65; refine (l33Line_any _ _ _ _ (by omega) (by omega) hc hr).mono ?_; rintro e w2 ⟨rfl, hb2⟩))
  go_ret2
  exact ⟨by rw [encB, h0, h1]; rfl, btr (btr (bal (bb _) _) (by assumption)) (by assumption)⟩
end Go.Proofs.YtfcekfomhpmgpaaDoor
