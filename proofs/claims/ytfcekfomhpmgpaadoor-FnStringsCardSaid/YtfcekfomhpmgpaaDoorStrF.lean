/- Contracts: EncodeRecord in the program; the law FnExactEncodeRecord's walk. -/
import Derived.Test.YtfcekfomhpmgpaaDoorStrE
namespace Go.Proofs.YtfcekfomhpmgpaaDoor
open Go.RowKit

set_option maxHeartbeats 2000000 in
theorem implEncodeRecord_any (k : Int) (c r : ByteArray) (w : World) (hE : Env w) (hc : c.size < 4294967281) (hr : r.size < 4294967281) :
    Calls Tryd.prog 18 #[.int .i64 k, .agg #[.string c, .string r]] w fun e w' => e = .returned (.tuple #[.string (ms (encB k (bl c) (bl r)).1), .bool (encB k (bl c) (bl r)).2]) ∧ Below w.heap.size w w' := by
  by_cases h0 : inB k 0 59 = true
  case neg =>
    have h0' : inB k 0 59 = false := by simpa using h0
    clear h0
    go_enter Tryd.func18, Tryd.ntmps18
    go_wp2_with (go_at_call 66; refine (within_any _ _ _ _).mono ?_; rintro e w' ⟨rfl, rfl⟩)
    go_ret2
    exact ⟨by rw [encB, h0']; rfl, bal (bb _) _⟩
  by_cases h1 : goodB (bl c) (bl r) = true
  case neg =>
    have h1' : goodB (bl c) (bl r) = false := by simpa using h1
    clear h1
    go_enter Tryd.func18, Tryd.ntmps18
    go_wp2_with (first
      | (go_at_call 66; refine (within_any _ _ _ _).mono ?_; rintro e w' ⟨rfl, rfl⟩)
      | (go_at_call 52; refine (implIsValidRecord_any _ _ _ hc hr).mono ?_; rintro e w1 ⟨rfl, hb1⟩))
    go_ret2
    exact ⟨by rw [encB, h0, h1']; rfl, btr (bal (bb _) _) (by assumption)⟩
  obtain ⟨hk0, hk1⟩ := inB_true.1 h0
  have HA := appB_good hk0 hk1 h1
  have HL : Hid ((ms (Lib.itoa k) ++ ⟨#[32]⟩ ++ c ++ ⟨#[64]⟩ ++ r) = ms (Lib.itoa k ++ 32 :: (bl c ++ 64 :: bl r))) := by
    unfold Hid; apply bl_inj; simp [bl_append, bl_ms, bl_lit]
  obtain ⟨_, _, g2, _, _, g5⟩ := goodB_facts h1
  rw [bl_length] at g2 g5
  have hl := itoa_len hk0 (by omega)
  have hn : (sealB (Lib.itoa k ++ 32 :: (bl c ++ 64 :: bl r))).length ≤ 400 := by
    have := sealB_length (Lib.itoa k ++ 32 :: (bl c ++ 64 :: bl r))
    simp [bl_length] at this; omega
  replace HA : Hid (appB (Lib.itoa k ++ 32 :: (bl c ++ 64 :: bl r)) = (sealB (Lib.itoa k ++ 32 :: (bl c ++ 64 :: bl r)), true)) := HA
  have hz : (ms (Lib.itoa k ++ 32 :: (bl c ++ 64 :: bl r))).size ≤ 9223372036854775806 := by
    rw [ms_size]; simp [bl_length]; omega
  have HB : ∀ w, Env w → Calls Tryd.prog 45 #[.string (ms (Lib.itoa k) ++ ⟨#[32]⟩ ++ c ++ ⟨#[64]⟩ ++ r)] w fun e w' => e = .returned (.tuple #[.string (ms (sealB (Lib.itoa k ++ 32 :: (bl c ++ 64 :: bl r)))), .bool true]) ∧ Below w.heap.size w w' := by
    intro w hE
    rw [HL.out]
    have := implAppendChecksum_any _ w hE hz
    rw [bl_ms, HA.out] at this
    exact this
  replace HB : Hid (∀ w, Env w → Calls Tryd.prog 45 #[.string (ms (Lib.itoa k) ++ ⟨#[32]⟩ ++ c ++ ⟨#[64]⟩ ++ r)] w fun e w' => e = .returned (.tuple #[.string (ms (sealB (Lib.itoa k ++ 32 :: (bl c ++ 64 :: bl r)))), .bool true]) ∧ Below w.heap.size w w') := HB
  clear hz HL HA
  go_enter Tryd.func18, Tryd.ntmps18
  go_wp2_with (first
    | (go_at_call 66; refine (within_any _ _ _ _).mono ?_; rintro e w' ⟨rfl, rfl⟩)
    | (go_at_call 52; refine (implIsValidRecord_any _ _ _ hc hr).mono ?_; rintro e w1 ⟨rfl, hb1⟩; obtain ⟨hc1, hf1⟩ := bcell hb1; have hs1 : w.heap.size < w1.heap.size := by have := hb1.size; simp at this; omega))
  rename_i w1 _ _ _ _ _ _
  have hE1 : Env w1 := (hE.alloc _).grow (by assumption)
  have c0 : w1.cell? ⟨w.heap.size, 0, none⟩ = some (.string c) := by simp [*]
  have c1 : w1.cell? ⟨w.heap.size, 1, none⟩ = some (.string r) := by simp [*]
  have k0 := cell_regrown c0
  have k1 := cell_regrown c1
  refine wp_region_quiet_below (by kernel_rfl) (by kernel_rfl) ?_
  repeat (any_goals (first
    | go_big_quiet_step ((first
      | (go_at_call 67; exact Calls.regrown_of (itoa_env k (by omega) (by omega) _ (hE1.grow (below_regrown _ _ _))))
      | (go_at_call 45; exact Calls.regrown_of (HB.out _ (hE1.grow (below_regrown _ _ _))))))))
  refine wpQuiet_nil ?_
  rintro w2 ⟨p, rfl⟩
  go_wp2_with fail
  go_ret2
  refine ⟨?_, btr (btr (bal (bb _) _) (by assumption)) (below_regrown _ _ _)⟩
  rw [encB, h0, h1]
  have e : ms (sealB (Lib.itoa k ++ 32 :: (bl c ++ 64 :: bl r))) ++ ⟨#[10]⟩ = ms (lineB k (bl c) (bl r)) := by
    apply bl_inj; simp [bl_append, bl_ms, bl_lit, lineB]
  exact congrArg (fun x => Ending.returned (.tuple #[.string x, .bool true])) e
end Go.Proofs.YtfcekfomhpmgpaaDoor
