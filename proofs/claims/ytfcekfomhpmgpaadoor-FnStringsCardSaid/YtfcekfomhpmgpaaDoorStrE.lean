/- Contracts: checksums and sealed strings, in the program. -/
import Derived.Test.YtfcekfomhpmgpaaDoorStrC
import Derived.Test.YtfcekfomhpmgpaaDoorStrD
import Derived.Test.YtfcekfomhpmgpaaDoorPlC
import Derived.Lib.SmallJoins
namespace Go.Proofs.YtfcekfomhpmgpaaDoor
open Go.RowKit

/-- What the calls of the library need of the world: its variable MaxLen holds a number, the table of powers of ten holds them. -/
structure Env (w : World) : Prop where
  maxlen : ∃ m : Int, w.cell? ⟨3, 0, none⟩ = some (.int .i64 m)
  pow : Lib.TabIs Tryd.prog w "internal/strconv.uint64pow10" .u64 Lib.pow10Tab
  low : 3 < w.heap.size ∧ 4 < w.heap.size
theorem globalPow : Tryd.prog.globalNamed "internal/strconv.uint64pow10" = some 4 := by kernel_rfl
theorem Env.below {B : Nat} {w w' : World} (h : Env w) (hb : Below B w w') (hB : w.heap.size ≤ B) : Env w' := by
  obtain ⟨⟨m, hm⟩, hp, hl⟩ := h
  exact ⟨⟨m, by rw [hb.cell (p := ⟨3, 0, none⟩) (Nat.lt_of_lt_of_le hl.1 hB)]; exact hm⟩, Joins.tab_stays globalPow hp hb hB, Nat.lt_of_lt_of_le hl.1 hb.size, Nat.lt_of_lt_of_le hl.2 hb.size⟩
theorem Env.grow {w w' : World} (h : Env w) (hb : Below w.heap.size w w') : Env w' := h.below hb (Nat.le_refl _)
theorem Env.alloc {w : World} (h : Env w) (o : Obj) : Env (w.alloc o) := h.grow (bal (bb _) _)

theorem itoa_env (n : Int) (h0 : -9223372036854775808 ≤ n) (h1 : n ≤ 9223372036854775807) (w : World) (hE : Env w) :
    Calls Tryd.prog 67 #[.int .i64 n] w fun e w' => e = .returned (.string (ms (Lib.itoa n))) ∧ Below w.heap.size w w' := by
  refine (Tryd.strconv_Itoa n h0 h1 w hE.pow).mono ?_
  rintro e w' ⟨rfl, k, os, rfl⟩
  exact ⟨rfl, below_regrown w (w.drewN k).drawn os⟩
theorem contains_env (s : ByteArray) (c : UInt8) (w : World) :
    Calls Tryd.prog 82 #[.string s, .string ⟨#[c]⟩] w fun e w' => e = .returned (.bool (hasB (bl s) c.toNat)) ∧ w = w' := by
  refine (Tryd.strings_Contains_one s c w).mono ?_
  rintro e w' ⟨rfl, rfl⟩
  exact ⟨ret_bool (lib_has c (bl s)), rfl⟩
theorem cut_env (s : ByteArray) (c : UInt8) (w : World) (hE : Env w) (hs : s.size < 4294967281) :
    Calls Tryd.prog 85 #[.string s, .string ⟨#[c]⟩] w fun e w' => e = .returned (.tuple #[.string (ms (cutP c.toNat (bl s)).1), .string (ms (cutP c.toNat (bl s)).2.1), .bool (cutP c.toNat (bl s)).2.2]) ∧ Below w.heap.size w w' := by
  obtain ⟨m, hm⟩ := hE.maxlen
  refine (Tryd.strings_Cut s ⟨#[c]⟩ m w hs hm).mono ?_
  rintro e w' ⟨rfl, n, rfl⟩
  exact ⟨by rw [show (ByteArray.mk #[c]).data.toList = [c] from rfl, lib_cut]; rfl, ⟨rfl, rfl, rfl, Nat.le_refl _, fun _ _ => rfl⟩⟩

set_option maxHeartbeats 400000 in
theorem implChecksum_any (s : ByteArray) (w : World) (hs : s.size ≤ 9223372036854775806) :
    Calls Tryd.prog 81 #[.string s] w fun e w' => e = .returned (.tuple #[.int .i64 (if (s.size : Int) ≤ 4000 then sumB (bl s) else 0), .bool (decide ((s.size : Int) ≤ 4000))]) ∧ w = w' := by
  by_cases hbig : (4000 : Int) < s.size
  · have e1 : (if (s.size : Int) ≤ 4000 then sumB (bl s) else 0) = 0 := if_neg (by omega)
    have e2 : decide ((s.size : Int) ≤ 4000) = false := by simp; omega
    rw [e1, e2]
    clear e1 e2
    go_enter Tryd.func81, Tryd.ntmps81
    go_wp2_with fail
    go_ret2
    exact ⟨rfl, rfl⟩
  · have e1 : (if (s.size : Int) ≤ 4000 then sumB (bl s) else 0) = sumB (bl s) := if_pos (by omega)
    have e2 : decide ((s.size : Int) ≤ 4000) = true := by simp; omega
    rw [e1, e2]
    clear e1 e2
    go_enter Tryd.func81, Tryd.ntmps81
    go_wp2_with fail
    go_loop [4, 11] (fun n i => ∃ k : Nat, k ≤ s.size ∧ i = .int .i64 k ∧ n = .int .i64 (sumB ((bl s).take k))) (fun _ i => s.size - (intOf i).toNat)
    case atStart => exact ⟨0, Nat.zero_le _, rfl, rfl⟩
    case round =>
      obtain ⟨k, hk, rfl, rfl⟩ := hrel
      by_cases hlt : k < s.size
      · have HS : Hid (sumB ((bl s).take (k + 1)) = (41 * sumB ((bl s).take k) + s[k].toNat + 1) % 999979) := by
          unfold Hid; rw [bl_take_succ s k hlt, sumB_snoc]
        have hr := sumB_range ((bl s).take k)
        obtain ⟨r0, r1⟩ := hr
        have hb : (s[k].toNat : Int) ≤ 255 := by have := s[k].toNat_lt; omega
        go_wp2
        go_round
        case rel => exact ⟨k + 1, by omega, by go_num, by rw [HS.out]⟩
        case measure => simp [intOf]; omega
      · have HF : Hid (sumB ((bl s).take k) = sumB (bl s)) := by unfold Hid; rw [bl_take_all s k (by omega)]
        go_wp2
        go_ret2
        exact ⟨congrArg (fun x => Ending.returned (.tuple #[.int .i64 x, .bool true])) HF.out, rfl⟩

set_option maxHeartbeats 1000000 in
theorem implAppendChecksum_any (s : ByteArray) (w : World) (hE : Env w) (hs : s.size ≤ 9223372036854775806) :
    Calls Tryd.prog 45 #[.string s] w fun e w' => e = .returned (.tuple #[.string (ms (appB (bl s)).1), .bool (appB (bl s)).2]) ∧ Below w.heap.size w w' := by
  by_cases h0 : (s.size : Int) ≤ 4000
  case neg =>
    have h0' : decide ((s.size : Int) ≤ 4000) = false := by simp; omega
    have h0'' : (4000 : Int) < s.size := by omega
    clear h0
    go_enter Tryd.func45, Tryd.ntmps45
    go_wp2_with (go_at_call 81; refine (implChecksum_any _ _ hs).mono ?_; rintro e w' ⟨rfl, rfl⟩; rw [if_neg (by omega)])
    go_ret2
    exact ⟨by rw [appB, bl_length, h0']; rfl, bb _⟩
  have h0' : decide ((s.size : Int) ≤ 4000) = true := by simp; omega
  have hsum := sumB_range (bl s)
  obtain ⟨r0, r1⟩ := hsum
  have hl := itoa_len r0 (by omega)
  by_cases h1 : hasB (bl s) 35 = true
  · go_enter Tryd.func45, Tryd.ntmps45
    go_wp2_with (first
      | (go_at_call 81; refine (implChecksum_any _ _ hs).mono ?_; rintro e w' ⟨rfl, rfl⟩)
      | (go_at_call 82; refine (contains_env _ _ _).mono ?_; rintro e w' ⟨rfl, rfl⟩))
    go_ret2
    exact ⟨by rw [appB, bl_length, h0', h1]; rfl, bb _⟩
  have h1' : hasB (bl s) 35 = false := by simpa using h1
  clear h1
  have HL : Hid ((sealB (bl s)).length = s.size + 1 + (Lib.itoa (sumB (bl s))).length) := by
    unfold Hid; rw [sealB, List.length_append, List.length_cons, bl_length]; omega
  have HV : Hid (s ++ ⟨#[35]⟩ ++ ms (Lib.itoa (sumB (bl s))) = ms (sealB (bl s))) := by
    unfold Hid; apply bl_inj; simp [bl_append, bl_ms, bl_lit, sealB]
  by_cases h2 : s.size + 1 + (Lib.itoa (sumB (bl s))).length ≤ 4000
  · have HF : Hid (appB (bl s) = (sealB (bl s), true)) := by
      unfold Hid
      rw [appB, bl_length, h0', h1', HL.out, decide_eq_true (by omega : ((s.size + 1 + (Lib.itoa (sumB (bl s))).length : Nat) : Int) ≤ 4000)]; rfl
    go_enter Tryd.func45, Tryd.ntmps45
    go_wp2_with (first
      | (go_at_call 81; refine (implChecksum_any _ _ hs).mono ?_; rintro e w' ⟨rfl, rfl⟩; rw [if_pos (by omega)])
      | (go_at_call 82; refine (contains_env _ _ _).mono ?_; rintro e w' ⟨rfl, rfl⟩)
      | (go_at_call 67; refine (itoa_env _ (by omega) (by omega) _ (by assumption)).mono ?_; rintro e w1 ⟨rfl, hb1⟩))
    go_ret2
    exact ⟨by rw [HF.out]; exact congrArg (fun x => Ending.returned (.tuple #[.string x, .bool true])) HV.out, by assumption⟩
  · have HF : Hid (appB (bl s) = ([], false)) := by
      unfold Hid
      rw [appB, bl_length, h0', h1', HL.out, decide_eq_false (by omega : ¬ ((s.size + 1 + (Lib.itoa (sumB (bl s))).length : Nat) : Int) ≤ 4000)]; rfl
    go_enter Tryd.func45, Tryd.ntmps45
    go_wp2_with (first
      | (go_at_call 81; refine (implChecksum_any _ _ hs).mono ?_; rintro e w' ⟨rfl, rfl⟩; rw [if_pos (by omega)])
      | (go_at_call 82; refine (contains_env _ _ _).mono ?_; rintro e w' ⟨rfl, rfl⟩)
      | (go_at_call 67; refine (itoa_env _ (by omega) (by omega) _ (by assumption)).mono ?_; rintro e w1 ⟨rfl, hb1⟩))
    go_ret2
    exact ⟨by rw [HF.out]; rfl, by assumption⟩

theorem appB_len (l : List UInt8) : (appB l).1.length ≤ 4000 := by
  unfold appB
  split
  · rename_i h
    simp only [Bool.and_eq_true, decide_eq_true_eq] at h
    have := h.2; show (sealB l).length ≤ 4000; omega
  · simp
theorem cutP_len (b : Int) (l : List UInt8) : (cutP b l).1.length ≤ l.length := by
  rcases cut_cases b l with h | ⟨x, c, y, rfl, h1, h2⟩
  · rw [cutP_none h]; exact Nat.le_refl _
  · rw [cutP_some h1 h2]; simp

set_option maxHeartbeats 1000000 in
theorem implVerifyChecksum_any (s : ByteArray) (w : World) (hE : Env w) (hs : s.size < 4294967281) :
    Calls Tryd.prog 47 #[.string s] w fun e w' => e = .returned (.tuple #[.string (ms (verB (bl s)).1), .bool (verB (bl s)).2]) ∧ Below w.heap.size w w' := by
  have hl := cutP_len 35 (bl s)
  rw [bl_length] at hl
  have hz : (ms (cutP 35 (bl s)).1).size ≤ 9223372036854775806 := by rw [ms_size]; omega
  by_cases h0 : (appB (cutP 35 (bl s)).1).2 = true
  case neg =>
    have h0' : (appB (cutP 35 (bl s)).1).2 = false := by simpa using h0
    clear h0
    go_enter Tryd.func47, Tryd.ntmps47
    go_wp2_with (first
      | (go_at_call 85; refine (cut_env _ _ _ hE hs).mono ?_; rintro e w1 ⟨rfl, hb1⟩)
      | (go_at_call 45; refine (implAppendChecksum_any _ _ (hE.grow (by assumption)) hz).mono ?_; rintro e w2 ⟨rfl, hb2⟩))
    go_ret2
    exact ⟨by rw [verB, h0']; rfl, btr (by assumption) (by assumption)⟩
  by_cases h1 : ((appB (cutP 35 (bl s)).1).1 == bl s) = true
  · go_enter Tryd.func47, Tryd.ntmps47
    go_wp2_with (first
      | (go_at_call 85; refine (cut_env _ _ _ hE hs).mono ?_; rintro e w1 ⟨rfl, hb1⟩)
      | (go_at_call 45; refine (implAppendChecksum_any _ _ (hE.grow (by assumption)) hz).mono ?_; rintro e w2 ⟨rfl, hb2⟩))
    go_ret2
    exact ⟨by rw [verB, h0, h1]; rfl, btr (by assumption) (by assumption)⟩
  · have h1' : ((appB (cutP 35 (bl s)).1).1 == bl s) = false := by simpa using h1
    clear h1
    go_enter Tryd.func47, Tryd.ntmps47
    go_wp2_with (first
      | (go_at_call 85; refine (cut_env _ _ _ hE hs).mono ?_; rintro e w1 ⟨rfl, hb1⟩)
      | (go_at_call 45; refine (implAppendChecksum_any _ _ (hE.grow (by assumption)) hz).mono ?_; rintro e w2 ⟨rfl, hb2⟩))
    go_ret2
    exact ⟨by rw [verB, h0, h1']; rfl, btr (by assumption) (by assumption)⟩
end Go.Proofs.YtfcekfomhpmgpaaDoor
