/- Contracts: numbers and their texts, in the reference and in the program. -/
import Derived.Test.YtfcekfomhpmgpaaDoorNumA
import Derived.Test.YtfcekfomhpmgpaaDoorStrE
import Derived.Test.YtfcekfomhpmgpaaDoorMemA
import Derived.Test.YtfcekfomhpmgpaaDoorShelf
import Derived.Test.YtfcekfomhpmgpaaDoorSpC
import Derived.Test.YtfcekfomhpmgpaaDoorCur
namespace Go.Proofs.YtfcekfomhpmgpaaDoor
open Go.RowKit

/-- What the reading of numbers needs of the world. -/
structure NumEnv (w : World) : Prop where
  env : Env w
  e1 : ∃ (tp : TypeId) (p : Value), w.cell? ⟨1, 0, none⟩ = some (.iface tp p)
  e2 : ∃ (tp : TypeId) (p : Value), w.cell? ⟨2, 0, none⟩ = some (.iface tp p)
theorem NumEnv.grow {w w' : World} (h : NumEnv w) (hb : Below w.heap.size w w') : NumEnv w' := by
  obtain ⟨h0, ⟨t1, p1, h1⟩, ⟨t2, p2, h2⟩⟩ := h
  exact ⟨h0.grow hb, ⟨t1, p1, (hb.cell (World.block_lt_of_cell? _ _ h1)).trans h1⟩, ⟨t2, p2, (hb.cell (World.block_lt_of_cell? _ _ h2)).trans h2⟩⟩

theorem bytes_below (w : World) (e : TypeId) (t : ByteArray) : Below w.heap.size w (Lib.bytesWorld w e t) :=
  ⟨rfl, rfl, rfl, by rw [Lib.bytesWorld_size]; omega, fun k hk => Lib.bytesWorld_at_old w e t k hk⟩
theorem atoi_yes {s : ByteArray} {v : Int} (hs : s.size ≤ 1000000) (h : Lib.atoiAll (bl s) = .ok v) (w : World) :
    Calls Tryd.prog 78 #[.string s] w fun e w' => e = .returned (.tuple #[.int .i64 v, .nilIface]) ∧ Below w.heap.size w w' := by
  refine (Tryd.strconv_Atoi_ok s (by omega) v h w).mono ?_
  rintro e w' ⟨rfl, rfl | ⟨t, rfl⟩⟩
  · exact ⟨rfl, bb _⟩
  · exact ⟨rfl, bytes_below w _ t⟩
/-- A number and an error that is not nil. -/
def AtoiNo (w : World) (e : Ending) (w' : World) : Prop :=
  ∃ (x : Int) (N : Nat), -9223372036854775808 ≤ x ∧ x ≤ 9223372036854775807 ∧ e = .returned (.tuple #[.int .i64 x, .iface 135 (.pointer (some ⟨N, 0, none⟩))]) ∧ Below w.heap.size w w'
theorem atoi_no {s : ByteArray} (hs : s.size ≤ 1000000) (h : ∀ v, Lib.atoiAll (bl s) ≠ .ok v) (w : World) (hE : NumEnv w) : Calls Tryd.prog 78 #[.string s] w (AtoiNo w) := by
  obtain ⟨t1, p1, h1⟩ := hE.e1
  obtain ⟨t2, p2, h2⟩ := hE.e2
  rcases hq : Lib.atoiAll (bl s) with v | _ | _
  · exact absurd hq (h v)
  · refine (Any.strconv_Atoi_syntax Tryd.laysC172 s (by omega) hq _ w h1 (.inr ⟨t1, p1, rfl⟩)).mono ?_
    rintro e w' ⟨N, rfl, _, _, hb⟩
    exact ⟨0, N, by decide, by decide, rfl, hb⟩
  · refine (Tryd.strconv_Atoi_range s (by omega) hq _ w h2 (.inr ⟨t2, p2, rfl⟩)).mono ?_
    rintro e w' ⟨N, rfl, _, _, hb⟩
    have hx := Lib.atoiSat_bounds (bl s)
    exact ⟨_, N, hx.1, hx.2, rfl, hb⟩

/-- What FormatInt gives. -/
def fmtB (n : Int) : List UInt8 × Bool := if inB n (-999999) 999999 then (Lib.itoa n, true) else ([], false)
set_option maxHeartbeats 400000 in
theorem implFormat_any (n : Int) (w : World) (hE : Env w) (h0 : -9223372036854775808 ≤ n) (h1 : n ≤ 9223372036854775807) :
    Calls Tryd.prog 39 #[.int .i64 n] w fun e w' => e = .returned (.tuple #[.string (ms (fmtB n).1), .bool (fmtB n).2]) ∧ Below w.heap.size w w' := by
  have hEH := Lib.hid hE
  clear hE
  cases hq : inB n (-999999) 999999
  · have hR : Hid (fmtB n = ([], false)) := by unfold Hid fmtB; rw [hq]; rfl
    go_enter Tryd.func39, Tryd.ntmps39
    go_wp2_with fail
    refine (within_any _ _ _ _).mono ?_
    rw [hq]
    rintro e w1 ⟨rfl, rfl⟩
    go_wp2_with fail
    go_ret2
    exact ⟨by rw [hR.out]; rfl, bb _⟩
  · have hR : Hid (fmtB n = (Lib.itoa n, true)) := by unfold Hid fmtB; rw [hq]; rfl
    go_enter Tryd.func39, Tryd.ntmps39
    go_wp2_with fail
    refine (within_any _ _ _ _).mono ?_
    rw [hq]
    rintro e w1 ⟨rfl, rfl⟩
    go_wp2_with fail
    refine (itoa_env n h0 h1 _ hEH.out).mono ?_
    rintro e w2 ⟨rfl, hb2⟩
    go_wp2_with fail
    go_ret2
    exact ⟨by rw [hR.out]; rfl, hb2⟩
theorem implFormat_at {n : Int} {f1 : List UInt8} {f2 : Bool} (h : fmtB n = (f1, f2)) (w : World) (hE : Env w) (h0 : -9223372036854775808 ≤ n) (h1 : n ≤ 9223372036854775807) :
    Calls Tryd.prog 39 #[.int .i64 n] w fun e w' => e = .returned (.tuple #[.string (ms f1), .bool f2]) ∧ Below w.heap.size w w' := by
  have := implFormat_any n w hE h0 h1
  rw [h] at this
  exact this
set_option maxHeartbeats 400000 in
theorem specFormat_any (n : Int) (w : World) :
    Calls Tryd.prog 40 #[.int .i64 n] w fun e w' => e = .returned (.tuple #[.string (ms (fmtB n).1), .bool (fmtB n).2]) ∧ Below w.heap.size w w' := by
  cases hq : inB n (-999999) 999999
  · have hR : Hid (fmtB n = ([], false)) := by unfold Hid fmtB; rw [hq]; rfl
    go_enter Tryd.func40, Tryd.ntmps40
    go_wp2_with fail
    refine (l1In_any _ _ _ _).mono ?_
    rw [hq]
    rintro e w1 ⟨rfl, rfl⟩
    go_wp2_with fail
    go_ret2
    exact ⟨by rw [hR.out]; rfl, bb _⟩
  · have hR : Hid (fmtB n = (Lib.itoa n, true)) := by unfold Hid fmtB; rw [hq]; rfl
    have hn := inB_true.1 hq
    obtain ⟨hn0, hn1⟩ := hn
    go_enter Tryd.func40, Tryd.ntmps40
    go_wp2_with fail
    refine (l1In_any _ _ _ _).mono ?_
    rw [hq]
    rintro e w1 ⟨rfl, rfl⟩
    go_wp2_with fail
    refine (l1Num_any n _ (by omega) (by omega)).mono ?_
    rintro e w2 ⟨rfl, hb2⟩
    go_wp2_with fail
    go_ret2
    exact ⟨by rw [hR.out]; rfl, hb2⟩

set_option maxHeartbeats 1000000 in
theorem implParse_any (s : ByteArray) (w : World) (hE : NumEnv w) (hs : s.size ≤ 1000000) :
    Calls Tryd.prog 42 #[.string s] w fun e w' => e = .returned (.tuple #[.int .i64 (numB (bl s)).1, .bool (numB (bl s)).2]) ∧ Below w.heap.size w w' := by
  have hEH := Lib.hid hE
  clear hE
  by_cases hv : ∃ v, Lib.atoiAll (bl s) = .ok v
  · obtain ⟨v, hv⟩ := hv
    have hN := numB_ok hv
    obtain ⟨hb0, hb1⟩ := Lib.atoiAll_bounds hv
    have hC := Lib.hid fun w => atoi_yes hs hv w
    clear hv
    obtain ⟨fm, hfm⟩ : ∃ fm, fmtB v = fm := ⟨_, rfl⟩
    obtain ⟨f1, f2⟩ := fm
    have hF := Lib.hid fun (w : World) (hE : Env w) => implFormat_at hfm w hE hb0 hb1
    unfold fmtB at hfm
    cases hq : inB v (-999999) 999999
    · rw [hq] at hfm hN
      simp only [Bool.false_eq_true, if_false, Prod.mk.injEq, Bool.false_and] at hfm hN
      obtain ⟨rfl, rfl⟩ := hfm
      replace hN := Lib.hid hN
      clear hq
      go_enter Tryd.func42, Tryd.ntmps42
      go_wp2_with fail
      refine (hC.out _).mono ?_
      rintro e w1 ⟨rfl, hb1'⟩
      go_wp2_with fail
      refine (hF.out _ (hEH.out.grow hb1').env).mono ?_
      rintro e w2 ⟨rfl, hb2⟩
      go_wp2_with fail
      go_ret2
      exact ⟨by rw [hN.out]; rfl, btr hb1' hb2⟩
    · rw [hq] at hfm hN
      simp only [if_true, Prod.mk.injEq, Bool.true_and] at hfm hN
      obtain ⟨rfl, rfl⟩ := hfm
      clear hq
      cases hq : Lib.itoa v == bl s
      · rw [hq] at hN
        simp only [Bool.false_eq_true, if_false] at hN
        replace hN := Lib.hid hN
        have hq' : (Lib.itoa v != bl s) = true := by simp [bne, hq]
        go_enter Tryd.func42, Tryd.ntmps42
        go_wp2_with fail
        refine (hC.out _).mono ?_
        rintro e w1 ⟨rfl, hb1'⟩
        go_wp2_with fail
        refine (hF.out _ (hEH.out.grow hb1').env).mono ?_
        rintro e w2 ⟨rfl, hb2⟩
        go_wp2_with fail
        go_ret2
        exact ⟨by rw [hN.out]; rfl, btr hb1' hb2⟩
      · rw [hq] at hN
        simp only [if_true] at hN
        replace hN := Lib.hid hN
        have hq' : (Lib.itoa v != bl s) = false := by simp [bne, hq]
        go_enter Tryd.func42, Tryd.ntmps42
        go_wp2_with fail
        refine (hC.out _).mono ?_
        rintro e w1 ⟨rfl, hb1'⟩
        go_wp2_with fail
        refine (hF.out _ (hEH.out.grow hb1').env).mono ?_
        rintro e w2 ⟨rfl, hb2⟩
        go_wp2_with fail
        go_ret2
        exact ⟨by rw [hN.out]; rfl, btr hb1' hb2⟩
  · have hN := Lib.hid (numB_no (l := bl s) fun v e => hv ⟨v, e⟩)
    have hC := Lib.hid fun w hE => atoi_no (s := s) hs (fun v e => hv ⟨v, e⟩) w hE
    clear hv
    go_enter Tryd.func42, Tryd.ntmps42
    go_wp2_with fail
    refine (hC.out _ hEH.out).mono ?_
    rintro e w1 ⟨x, N, hx0, hx1, rfl, hb1⟩
    go_wp2_with fail
    refine (implFormat_any x _ (hEH.out.grow hb1).env hx0 hx1).mono ?_
    generalize fmtB x = fm
    obtain ⟨f1, f2⟩ := fm
    rintro e w2 ⟨rfl, hb2⟩
    go_wp2_with fail
    go_ret2
    exact ⟨by rw [hN.out]; rfl, btr hb1 hb2⟩

set_option maxHeartbeats 1000000 in
theorem specAppendChecksum_any (s : ByteArray) (w : World) (hs : s.size ≤ 1000000) :
    Calls Tryd.prog 46 #[.string s] w fun e w' => e = .returned (.tuple #[.string (ms (appB (bl s)).1), .bool (appB (bl s)).2]) ∧ Below w.heap.size w w' := by
  have hR : appB (bl s) = if decide ((s.size : Int) ≤ 4000) && !hasB (bl s) 35 && decide (((sealB (bl s)).length : Int) ≤ 4000) then (sealB (bl s), true) else ([], false) := by unfold appB; rw [bl_length]
  by_cases hl : (4000 : Int) < (s.size : Int)
  · rw [decide_eq_false (by omega)] at hR
    replace hR := Lib.hid hR
    go_enter Tryd.func46, Tryd.ntmps46
    go_wp2_with fail
    go_ret2
    exact ⟨by rw [hR.out]; rfl, bb _⟩
  rw [decide_eq_true (by omega)] at hR
  cases hh : hasB (bl s) 35
  · rw [hh] at hR
    by_cases hz : (4000 : Int) < ((sealB (bl s)).length : Int)
    · rw [decide_eq_false (by omega)] at hR
      replace hR := Lib.hid hR
      go_enter Tryd.func46, Tryd.ntmps46
      go_wp2_with fail
      refine (l1Stands_at hh _ (by omega)).mono ?_
      rintro e w1 ⟨rfl, hb1⟩
      go_wp2_with fail
      refine (l1Seal_any s _ (by omega)).mono ?_
      rintro e w2 ⟨rfl, hb2⟩
      go_wp2_with fail
      go_ret2
      exact ⟨by rw [hR.out]; rfl, btr hb1 hb2⟩
    · rw [decide_eq_true (by omega)] at hR
      replace hR := Lib.hid hR
      go_enter Tryd.func46, Tryd.ntmps46
      go_wp2_with fail
      refine (l1Stands_at hh _ (by omega)).mono ?_
      rintro e w1 ⟨rfl, hb1⟩
      go_wp2_with fail
      refine (l1Seal_any s _ (by omega)).mono ?_
      rintro e w2 ⟨rfl, hb2⟩
      go_wp2_with fail
      refine (l1Seal_any s _ (by omega)).mono ?_
      rintro e w3 ⟨rfl, hb3⟩
      go_wp2_with fail
      go_ret2
      exact ⟨by rw [hR.out]; rfl, btr (btr hb1 hb2) hb3⟩
  · rw [hh] at hR
    replace hR := Lib.hid hR
    go_enter Tryd.func46, Tryd.ntmps46
    go_wp2_with fail
    refine (l1Stands_at hh _ (by omega)).mono ?_
    rintro e w1 ⟨rfl, hb1⟩
    go_wp2_with fail
    go_ret2
    exact ⟨by rw [hR.out]; rfl, hb1⟩

set_option maxHeartbeats 1000000 in
theorem vAt_any (ca : Option Addr) (cl cc : Nat) (i : Nat) (w : World) (hc : CodeOk w ca cl) (hs : cl ≤ 65536) (hi : i ≤ 1000) :
    Calls Tryd.prog 48 #[.slice ca cl cc, .int .i64 i] w fun e w' => ∃ x : Int, 0 ≤ x ∧ x ≤ 255 ∧ e = .returned (.int .i64 x) ∧ w = w' := by
  by_cases h : i < cl
  · obtain ⟨cb, off, x, rfl, hcell, hx0, hx1⟩ := hc i h
    have h' : (i : Int) < (cl : Int) := by omega
    clear hc
    go_enter Tryd.func48, Tryd.ntmps48
    go_wp2_with fail
    go_ret
    exact ⟨x, hx0, hx1, by first | rfl | (congr 2; omega), rfl⟩
  · have h' : ¬ (i : Int) < (cl : Int) := by omega
    clear hc
    go_enter Tryd.func48, Tryd.ntmps48
    go_wp2_with fail
    go_ret
    exact ⟨_, by omega, by omega, rfl, rfl⟩
end Go.Proofs.YtfcekfomhpmgpaaDoor
