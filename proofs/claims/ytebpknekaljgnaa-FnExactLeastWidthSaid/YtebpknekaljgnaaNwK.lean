/- Contracts: masks of clauses, in the program. -/
import Derived.Test.YtebpknekaljgnaaNwC
import Derived.Laws.BitsAllLaws
import Derived.Laws.BitsLemmas
namespace Go.Proofs.Ytebpknekaljgnaa
open Go.RowKit

theorem ofInt_u16 (a : Nat) (ha : a < 65536) : (BitVec.ofInt 16 (a : Int)).toNat = a := by
  rw [BitVec.ofInt_natCast, BitVec.toNat_ofNat]; exact Nat.mod_eq_of_lt (by omega)
theorem u16_and (a b : Nat) (ha : a < 65536) (hb : b < 65536) : bits .and .u16 (a : Int) (b : Int) = ((a &&& b : Nat) : Int) := by
  have hx : a &&& b < 2 ^ 16 := Nat.and_lt_two_pow _ (by omega)
  show IntKind.u16.wrap ((BitVec.ofInt 16 (a : Int) &&& BitVec.ofInt 16 (b : Int)).toNat : Int) = _
  rw [BitVec.toNat_and, ofInt_u16 a ha, ofInt_u16 b hb, IntWalk.u16_in _ (by omega)]
theorem u16_or (a b : Nat) (ha : a < 65536) (hb : b < 65536) : bits .or .u16 (a : Int) (b : Int) = ((a ||| b : Nat) : Int) := by
  have hx : a ||| b < 2 ^ 16 := Nat.or_lt_two_pow (by omega) (by omega)
  show IntKind.u16.wrap ((BitVec.ofInt 16 (a : Int) ||| BitVec.ofInt 16 (b : Int)).toNat : Int) = _
  rw [BitVec.toNat_or, ofInt_u16 a ha, ofInt_u16 b hb, IntWalk.u16_in _ (by omega)]
theorem u16_andNot (a b : Nat) (ha : a < 65536) (hb : b < 65536) : bits .andNot .u16 (a : Int) (b : Int) = ((notN a b : Nat) : Int) := by
  have hx : a &&& (65535 ^^^ b) < 2 ^ 16 := Nat.lt_of_le_of_lt Nat.and_le_left (by omega)
  show IntKind.u16.wrap ((BitVec.ofInt 16 (a : Int) &&& ~~~ BitVec.ofInt 16 (b : Int)).toNat : Int) = _
  have hn : (~~~ BitVec.ofInt 16 (b : Int)).toNat = 65535 ^^^ b := by
    rw [BitVec.toNat_not, ofInt_u16 b hb]
    refine Nat.eq_of_testBit_eq fun i => ?_
    rw [Nat.testBit_xor, bit65535, show 2 ^ 16 - 1 - b = 2 ^ 16 - (b + 1) by omega, Nat.testBit_two_pow_sub_succ (by omega)]
    by_cases h : i < 16
    · simp [h]
    · rw [tb_off (n := 16) hb (by omega)]; simp [h]
  rw [BitVec.toNat_and, ofInt_u16 a ha, hn, IntWalk.u16_in _ (by omega)]
  rfl

theorem swap_eq {m : Nat} (hm : m < 4096) : bits .or .u16 (IntKind.u16.wrap (bits .and .u16 (m : Int) 63 * 64)) ((m : Int) / 64) = ((swapN m : Nat) : Int) := by
  have h1 : m &&& 63 ≤ 63 := Nat.and_le_right
  rw [show (63 : Int) = ((63 : Nat) : Int) from rfl, u16_and m 63 (by omega) (by omega), IntWalk.u16_in _ (by omega), show ((m &&& 63 : Nat) : Int) * 64 = (((m &&& 63) * 64 : Nat) : Int) by omega, show (m : Int) / 64 = ((m / 64 : Nat) : Int) by omega, u16_or _ _ (by omega) (by omega)]
  rfl
set_option maxHeartbeats 400000 in
theorem swapped_any (m : Nat) (w : World) (hm : m < 4096) : Calls Try.prog 67 #[.int .u16 m] w fun e w' => e = .returned (.int .u16 (swapN m : Nat)) ∧ w = w' := by
  have he := Lib.hid (swap_eq hm)
  go_enter Try.func67, Try.ntmps67
  go_wp2
  go_ret
  exact ⟨ret_int he.out, rfl⟩
theorem both_eq {a b : Nat} (ha : a < 4096) (hb : b < 4096) : bits .and .u16 (bits .or .u16 (bits .and .u16 (a : Int) (swapN b : Nat)) (bits .and .u16 (a : Int) (swapN b : Nat) / 64)) 63 = ((bothN a b : Nat) : Int) := by
  have h0 := swap_lt hb
  have h1 : a &&& swapN b ≤ a := Nat.and_le_left
  rw [u16_and a _ (by omega) (by omega), show ((a &&& swapN b : Nat) : Int) / 64 = (((a &&& swapN b) / 64 : Nat) : Int) by omega, u16_or _ _ (by omega) (by omega), show (63 : Int) = ((63 : Nat) : Int) from rfl]
  have h2 : (a &&& swapN b) ||| ((a &&& swapN b) / 64) < 2 ^ 12 := Nat.or_lt_two_pow (by omega) (by omega)
  rw [u16_and _ 63 (by omega) (by omega)]
  rfl
set_option maxHeartbeats 400000 in
theorem bothOf_any (a b : Nat) (w : World) (ha : a < 4096) (hb : b < 4096) : Calls Try.prog 62 #[.int .u16 a, .int .u16 b] w fun e w' => e = .returned (.int .u16 (bothN a b : Nat)) ∧ w = w' := by
  have he := Lib.hid (both_eq ha hb)
  have h0 := swap_lt hb
  go_enter Try.func62, Try.ntmps62
  go_wp2_with (go_at_call 67; (with_reducible refine (swapped_any b _ hb).mono ?_); rintro e w1 ⟨rfl, rfl⟩)
  go_ret
  exact ⟨ret_int he.out, rfl⟩
set_option maxHeartbeats 400000 in
theorem one_any (m : Nat) (w : World) (hm : m < 4096) : Calls Try.prog 63 #[.int .u16 m] w fun e w' => e = .returned (.bool (oneN m)) ∧ w = w' := by
  by_cases h0 : m = 0
  · subst h0
    have he : Hid (oneN 0 = false) := by unfold Hid; rfl
    go_enter Try.func63, Try.ntmps63
    go_wp2
    go_ret
    exact ⟨ret_bool he.out.symm, rfl⟩
  · have hne : ((m : Int) != 0) = true := by simp; omega
    have hsub : IntKind.u16.wrap ((m : Int) - 1) = ((m - 1 : Nat) : Int) := by rw [IntWalk.u16_in _ (by omega)]; omega
    have ha := u16_and m (m - 1) (by omega) (by omega)
    have he : Hid (oneN m = (((m &&& (m - 1) : Nat) : Int) == 0)) := by
      unfold Hid oneN
      rw [decide_eq_true h0, Bool.true_and, Bool.eq_iff_iff, decide_eq_true_eq, beq_iff_eq]
      omega
    have hge : 1 ≤ (m : Int) := by omega
    replace h0 := Lib.hid h0
    go_enter Try.func63, Try.ntmps63
    go_wp2
    go_ret
    exact ⟨ret_bool he.out.symm, rfl⟩
set_option maxHeartbeats 1000000 in
theorem count_any (m : Nat) (w : World) (hm : m < 4096) : Calls Try.prog 42 #[.int .u16 m] w fun e w' => e = .returned (.int .i64 (popN m : Nat)) ∧ w = w' := by
  go_enter Try.func42, Try.ntmps42
  go_wp2
  go_loop [0, 3] (fun z n => ∃ x k : Nat, x < 4096 ∧ k ≤ 12 ∧ z = .int .u16 x ∧ n = .int .i64 k ∧ Hid (k + popN x = popN m)) (fun z _ => (intOf z).toNat)
  case atStart => exact ⟨m, 0, hm, by omega, rfl, rfl, by simp [Hid]⟩
  case round =>
    obtain ⟨x, k, hx, hk, rfl, rfl, HR⟩ := hrel
    by_cases h0 : x = 0
    · subst h0
      have he : Hid ((k : Int) = (popN m : Nat)) := by
        unfold Hid
        have := HR.out
        rw [show popN 0 = 0 by decide] at this; omega
      go_wp2
      go_ret
      exact ⟨ret_int he.out, rfl⟩
    · have hne : ((x : Int) != 0) = true := by simp; omega
      have hsub : IntKind.u16.wrap ((x : Int) - 1) = ((x - 1 : Nat) : Int) := by rw [IntWalk.u16_in _ (by omega)]; omega
      have ha := u16_and x (x - 1) (by omega) (by omega)
      have hge : 1 ≤ (x : Int) := by omega
      have hp := pop_step hx h0
      have hle : x &&& (x - 1) ≤ x - 1 := Nat.and_le_right
      have hpm : popN x ≤ 12 := by unfold popN; exact Nat.le_trans (List.length_filter_le _ _) (by simp)
      have hpm2 : popN m ≤ 12 := by unfold popN; exact Nat.le_trans (List.length_filter_le _ _) (by simp)
      have HN : Hid (k + 1 + popN (x &&& (x - 1)) = popN m) := by unfold Hid; have := HR.out; omega
      have hk1 : k + 1 ≤ 12 := by have := HR.out; omega
      have hlt : (x &&& (x - 1)) < x := by omega
      have hlt2 : (x &&& (x - 1)) < 4096 := by omega
      clear HR hp hpm hpm2 h0 hle
      generalize hy : x &&& (x - 1) = y at *
      clear hy
      go_wp2
      go_round
      case rel => exact ⟨y, k + 1, hlt2, hk1, rfl, by go_num, HN⟩
      case measure => simp [intOf]; omega
theorem shl_pos {l : Int} (h0 : 1 ≤ l) (h1 : l ≤ 6) : IntKind.u16.wrap (2 ^ (l.toNat - 1)) = ((2 ^ litBit l : Nat) : Int) := by
  have : l = 1 ∨ l = 2 ∨ l = 3 ∨ l = 4 ∨ l = 5 ∨ l = 6 := by omega
  rcases this with rfl | rfl | rfl | rfl | rfl | rfl <;> decide
theorem shl_neg {l : Int} (h0 : -6 ≤ l) (h1 : l ≤ -1) : IntKind.u16.wrap (2 ^ ((6 - l).toNat - 1)) = ((2 ^ litBit l : Nat) : Int) := by
  have : l = -1 ∨ l = -2 ∨ l = -3 ∨ l = -4 ∨ l = -5 ∨ l = -6 := by omega
  rcases this with rfl | rfl | rfl | rfl | rfl | rfl <;> decide
set_option maxHeartbeats 1000000 in
theorem maskOf_any (v : Value) (c : List Int) (F : List Nat) (w : World) (hx : Ty.int.row false w v c F) (hg : ∀ l ∈ c, Lit6 l) : Calls Try.prog 61 #[v] w fun e w' => e = .returned (.int .u16 (maskN c : Nat)) ∧ w = w' := by
  obtain ⟨a, cap, rfl, hx1, hx2, hxI, hx3⟩ := row_int hx
  go_enter Try.func61, Try.ntmps61
  go_wp2
  go_loop [3, 8] (fun m i => ∃ k : Nat, k ≤ c.length ∧ i = .int .i64 k ∧ m = .int .u16 (maskN (c.take k) : Nat)) (fun _ i => c.length - (intOf i).toNat)
  case atStart => exact ⟨0, Nat.zero_le _, rfl, rfl⟩
  case round =>
    obtain ⟨k, hk, rfl, rfl⟩ := hrel
    by_cases hlt : k < c.length
    · rcases hx3 with ⟨rfl, rfl⟩ | ⟨hxn, b, off, rfl, rfl, hxc⟩
      · exact absurd hlt (by simp)
      have k0 := (hxc k hlt).1
      have hl := hg _ (List.getElem_mem hlt)
      have hs : Hid (maskN (c.take (k + 1)) = maskN (c.take k) ||| 2 ^ litBit c[k]) := by unfold Hid; rw [List.take_succ_eq_append_getElem hlt, maskN_snoc]
      have hmk := maskN_lt (c := c.take k) (fun x hx => hg x (List.mem_of_mem_take hx))
      have hbl := litBit_lt hl
      have hpw : 2 ^ litBit c[k] < 65536 := Nat.lt_of_le_of_lt (Nat.pow_le_pow_right (by decide) (Nat.le_of_lt hbl)) (by decide)
      generalize maskN (c.take k) = M at *
      generalize c[k] = l at *
      unfold Lit6 at hl
      obtain ⟨hl0, hl1, hl2⟩ := hl
      have hor := u16_or M (2 ^ litBit l) (by omega) hpw
      clear hxc hbl
      by_cases hp : 0 < l
      · have hsh := shl_pos (l := l) (by omega) hl2
        generalize 2 ^ litBit l = p at hs hor hsh hpw
        go_wp2
        go_round
        case rel => exact ⟨k + 1, by omega, by go_num, by rw [hs.out]⟩
        case measure => simp [intOf]; omega
      · have hsh := shl_neg (l := l) hl1 (by omega)
        have hp2 : l ≤ -1 := by omega
        generalize 2 ^ litBit l = p at hs hor hsh hpw
        go_wp2
        go_round
        case rel => exact ⟨k + 1, by omega, by go_num, by rw [hs.out]⟩
        case measure => simp [intOf]; omega
    · obtain rfl : k = c.length := by omega
      go_wp2
      go_ret
      exact ⟨rfl, rfl⟩
end Go.Proofs.Ytebpknekaljgnaa
