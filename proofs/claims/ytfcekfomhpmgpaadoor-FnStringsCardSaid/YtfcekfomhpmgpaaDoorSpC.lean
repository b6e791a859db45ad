/- Contracts: strings joined in the reference. -/
import Derived.Test.YtfcekfomhpmgpaaDoorSpB
import Derived.Test.YtfcekfomhpmgpaaDoorStrA
import Derived.Lib.QuietBelow
import Derived.BigQuiet
namespace Go.Proofs.YtfcekfomhpmgpaaDoor
open Go.RowKit

theorem l1Stands_at {s : ByteArray} {b : Int} {q : Bool} (h : hasB (bl s) b = q) (w : World) (hs : s.size ≤ 9223372036854775806) : Calls Tryd.prog 83 #[.string s, .int .u8 b] w fun e w' => e = .returned (.bool q) ∧ Below w.heap.size w w' :=
  h ▸ (l1Stands_any s b w hs).mono fun _ _ ⟨h1, h2⟩ => ⟨h1, h2 ▸ bb _⟩

theorem join_take_succ {xs : List ByteArray} {k : Nat} (hk : k < xs.length) (c : UInt8) : Lib.join ((xs.map bl).take (k + 1)) [c] = if k = 0 then bl xs[k] else Lib.join ((xs.map bl).take k) [c] ++ [c] ++ bl xs[k] := by
  have hkl : k < (xs.map bl).length := by simpa using hk
  rw [List.take_succ_eq_append_getElem hkl, List.getElem_map]
  by_cases h : k = 0
  · subst h
    rw [if_pos rfl, List.take_zero, List.nil_append, Lib.join_one]
  · rw [if_neg h, join_snoc (by intro e; have := congrArg List.length e; rw [List.length_take, List.length_nil] at this; omega)]

set_option maxHeartbeats 2000000 in
theorem specJoin_any (a : Option Addr) (cap : Nat) (xs : List ByteArray) (sep : ByteArray) (w : World) (hx : StrsAt w a xs) (hl : xs.length ≤ 1000000) (hcap : xs.length ≤ cap) (hsz : ∀ x ∈ xs, x.size ≤ 1000000) (hsep : sep.size ≤ 1000000) :
    Calls Tryd.prog 59 #[.slice a xs.length cap, .string sep] w fun e w' => e = .returned (.tuple #[.string (ms (joinB (bl sep) (xs.map bl)).1), .bool (joinB (bl sep) (xs.map bl)).2]) ∧ Below w.heap.size w w' := by
  by_cases hq : sep.size = 1
  case neg =>
    rw [joinB_sep (by rw [bl_length]; exact hq)]
    have hq' : ((sep.size : Int) != 1) = true := by rw [bne_iff_ne]; omega
    clear hq
    go_enter Tryd.func59, Tryd.ntmps59
    go_wp2_with fail
    go_ret2
    exact ⟨rfl, bb _⟩
  obtain ⟨c, rfl⟩ := Lib.one_byte sep hq
  rcases Nat.eq_zero_or_pos xs.length with h0 | h0
  · obtain rfl := List.length_eq_zero_iff.1 h0
    rw [List.map_nil, joinB_nil]
    clear hq
    go_enter Tryd.func59, Tryd.ntmps59
    go_wp2_with fail
    go_ret2
    exact ⟨rfl, bb _⟩
  have hne : xs ≠ [] := by rintro rfl; simp at h0
  have hz : ((xs.length : Int) == 0) = false := by rw [beq_eq_false_iff_ne]; omega
  obtain ⟨b, o, rfl, hc⟩ := hx.view hne
  replace hc := Lib.hid hc
  have hR : Hid (joinB (bl ⟨#[c]⟩) (xs.map bl) = if fitJ c (xs.map bl) then (Lib.join (xs.map bl) [c], true) else ([], false)) := joinB_one (by simpa using hne)
  replace hne := Lib.hid hne
  have hszH := Lib.hid hsz
  clear hq hsz hx hsep
  go_enter Tryd.func59, Tryd.ntmps59
  go_wp2_with fail
  go_loopw [6, 7] (fun z i wr => ∃ (k : Nat) (s : ByteArray), k ≤ xs.length ∧ i = .int .i64 k ∧ z = .string s ∧ Hid (bl s = Lib.join ((xs.map bl).take k) [c]) ∧ s.size ≤ 4000 ∧ Hid (((xs.map bl).take k).any (fun x => hasB x c.toNat) = false) ∧ Below w.heap.size w wr) (fun _ i _ => xs.length - (intOf i).toNat)
  case atStart => exact ⟨0, ⟨#[]⟩, Nat.zero_le _, rfl, rfl, by simp [Hid, Lib.join_nil]; rfl, by decide, by simp [Hid], bb _⟩
  case round =>
    obtain ⟨k, s, hk, rfl, rfl, HS, hs4, HA, hB⟩ := hrel
    by_cases hlt : k < xs.length
    · have k9 := (hB.cell (World.block_lt_of_cell? _ _ (hc.out k hlt))).trans (hc.out k hlt)
      have k0 := cell_regrown k9
      have hkl : k < (xs.map bl).length := by simpa using hlt
      have hsk := hszH.out _ (List.getElem_mem hlt)
      have hge : (xs.map bl)[k] = bl xs[k] := by simp
      have hjs := Lib.hid (join_take_succ hlt c)
      cases hh : hasB (bl xs[k]) c.toNat
      case true =>
        have HF : Hid (fitJ c (xs.map bl) = false) := fit_no_has hkl (by rw [hge]; exact hh)
        clear hge HA HS k9
        generalize xs[k] = x at *
        go_wp2_with fail
        refine wp_region_quiet_below (by kernel_rfl) (by kernel_rfl) ?_
        repeat (any_goals (first | go_big_quiet_step ((go_at_call 83; exact Calls.regrown_of (l1Stands_at hh _ (by omega))))))
        refine wpQuiet_nil ?_
        rintro w1 ⟨p, rfl⟩
        go_wp2_with fail
        go_ret2
        exact ⟨by rw [hR.out, HF.out]; rfl, hB.trans ((below_regrown _ _ _).mono hB.size)⟩
      have HA2 : Hid (((xs.map bl).take (k + 1)).any (fun x => hasB x c.toNat) = false) := any_snoc hkl HA.out (by rw [hge]; exact hh)
      have HL := Lib.hid (@fit_no_len c (xs.map bl) (k + 1) (by omega))
      clear hge HA
      generalize xs[k] = x at *
      rcases Nat.eq_zero_or_pos k with rfl | hpos
      · have a1 := fun w' => run_add (P := Tryd.prog) w' s x (by omega)
        obtain ⟨Z, hZ⟩ : ∃ Z, ms (bl s ++ bl x) = Z := ⟨_, rfl⟩
        have hbZ : Hid (bl Z = Lib.join ((xs.map bl).take (0 + 1)) [c]) := by
          unfold Hid
          rw [hjs.out, if_pos rfl, ← hZ, bl_ms, HS.out]
          simp [Lib.join_nil]
        rw [hZ] at a1
        clear hZ hjs HS
        rw [Nat.add_zero] at k0 k9
        by_cases hbig : (4000 : Int) < (Z.size : Int)
        · have HF : Hid (fitJ c (xs.map bl) = false) := HL.out (by rw [← hbZ.out, bl_length]; omega)
          clear HL HA2
          go_wp2_with fail
          refine wp_region_quiet_below (by kernel_rfl) (by kernel_rfl) ?_
          repeat (any_goals (first | go_big_quiet_step ((go_at_call 83; exact Calls.regrown_of (l1Stands_at hh _ (by omega))))))
          refine wpQuiet_nil ?_
          rintro w1 ⟨p, rfl⟩
          go_wp2_with fail
          go_ret2
          exact ⟨by rw [hR.out, HF.out]; rfl, hB.trans ((below_regrown _ _ _).mono hB.size)⟩
        · clear HL
          go_wp2_with fail
          refine wp_region_quiet_below (by kernel_rfl) (by kernel_rfl) ?_
          repeat (any_goals (first | go_big_quiet_step ((go_at_call 83; exact Calls.regrown_of (l1Stands_at hh _ (by omega))))))
          refine wpQuiet_nil ?_
          rintro w1 ⟨p, rfl⟩
          go_wp2_with fail
          go_roundw
          case rel => exact ⟨0 + 1, Z, by omega, by go_num, rfl, hbZ, by omega, HA2, hB.trans ((below_regrown _ _ _).mono hB.size)⟩
          case measure => simp [intOf]; omega
      · have a0 := fun w' => run_add (P := Tryd.prog) w' s ⟨#[c]⟩ (by show _ + 1 ≤ _; omega)
        obtain ⟨Y, hY⟩ : ∃ Y, ms (bl s ++ bl ⟨#[c]⟩) = Y := ⟨_, rfl⟩
        have hYs : Y.size ≤ 4001 := by rw [← hY, ms_size, List.length_append, bl_length]; show _ + 1 ≤ _; omega
        have hYb : bl Y = Lib.join ((xs.map bl).take k) [c] ++ [c] := by rw [← hY, bl_ms, HS.out]; rfl
        rw [hY] at a0
        have a1 := fun w' => run_add (P := Tryd.prog) w' Y x (by omega)
        obtain ⟨Z, hZ⟩ : ∃ Z, ms (bl Y ++ bl x) = Z := ⟨_, rfl⟩
        have hbZ : Hid (bl Z = Lib.join ((xs.map bl).take (k + 1)) [c]) := by
          unfold Hid
          rw [hjs.out, if_neg (by omega), ← hZ, bl_ms, hYb]
        rw [hZ] at a1
        have hpos' : (0 : Int) < (k : Int) := by omega
        clear hZ hjs HS hY hYb
        by_cases hbig : (4000 : Int) < (Z.size : Int)
        · have HF : Hid (fitJ c (xs.map bl) = false) := HL.out (by rw [← hbZ.out, bl_length]; omega)
          clear HL HA2
          go_wp2_with fail
          refine wp_region_quiet_below (by kernel_rfl) (by kernel_rfl) ?_
          repeat (any_goals (first | go_big_quiet_step ((go_at_call 83; exact Calls.regrown_of (l1Stands_at hh _ (by omega))))))
          refine wpQuiet_nil ?_
          rintro w1 ⟨p, rfl⟩
          go_wp2_with fail
          go_ret2
          exact ⟨by rw [hR.out, HF.out]; rfl, hB.trans ((below_regrown _ _ _).mono hB.size)⟩
        · clear HL
          go_wp2_with fail
          refine wp_region_quiet_below (by kernel_rfl) (by kernel_rfl) ?_
          repeat (any_goals (first | go_big_quiet_step ((go_at_call 83; exact Calls.regrown_of (l1Stands_at hh _ (by omega))))))
          refine wpQuiet_nil ?_
          rintro w1 ⟨p, rfl⟩
          go_wp2_with fail
          go_roundw
          case rel => exact ⟨k + 1, Z, by omega, by go_num, rfl, hbZ, by omega, HA2, hB.trans ((below_regrown _ _ _).mono hB.size)⟩
          case measure => simp [intOf]; omega
    · obtain rfl : k = xs.length := by omega
      have HA1 := HA.out
      have HS1 := HS.out
      rw [List.take_of_length_le (by simp)] at HA1 HS1
      have HF : Hid (fitJ c (xs.map bl) = true) := fit_yes HA1 (by rw [← HS1, bl_length]; exact hs4)
      replace HS1 := Lib.hid HS1
      clear HA HS HA1
      go_wp2_with fail
      go_ret2
      exact ⟨by rw [hR.out, HF.out, ← HS1.out]; rfl, hB⟩
end Go.Proofs.YtfcekfomhpmgpaaDoor
