/- Contracts: the numbers and strings that are drawn to be written, read and sealed. -/
import Derived.Test.YtfcekfomhpmgpaaDoorNumC
import Derived.Test.YtfcekfomhpmgpaaDoorSpD
namespace Go.Proofs.YtfcekfomhpmgpaaDoor
open Go.RowKit

set_option maxHeartbeats 1000000 in
theorem vBigS_any (ca : Option Addr) (cl cc : Nat) (w : World) : Calls Tryd.prog 37 #[.slice ca cl cc] w fun e w' => e = .returned (.bool (decide ((65536 : Int) < (cl : Int)))) ∧ w' = w := by
  go_enter Tryd.func37, Tryd.ntmps37
  go_wp2_with fail
  go_ret
  exact ⟨rfl, rfl⟩
set_option maxHeartbeats 2000000 in
theorem drawFormat_any (ca : Option Addr) (cl cc : Nat) (w : World) (hc : CodeOk w ca cl) (hs : cl ≤ 65536) :
    Calls Tryd.prog 38 #[.slice ca cl cc] w fun e w' => ∃ n : Int, -1000000 ≤ n ∧ n ≤ 1000000 ∧ e = .returned (.int .i64 n) ∧ Below w.heap.size w w' := by
  go_enter Tryd.func38, Tryd.ntmps38
  go_wp2_with fail
  refine (cur_pick_at (lo := 0) (hi := 999) (cur_new hc hs) (by omega) (by omega) (by omega) (by omega) (by omega)).mono ?_
  rintro e w1 ⟨_, ⟨x, hx0, hx1, rfl⟩, rfl, hi1, hc1⟩
  have hb1 : Below w.heap.size w w1 := (bal (bb w) _).trans (hc1.below (by simp) (by simp))
  have hlt := hi1.lt
  clear hc1
  go_wp2_with fail
  refine (cur_among (-1000000) 1000000 w1.heap.size 0 9 9 2 w.heap.size ca cl cc _ (hi1.grow (by repeat (first | exact bb _ | assumption | refine bal ?_ _ | refine bdr ?_ | refine bdn ?_ _ | refine bst ?_ (by simp <;> omega) _ | refine btr ?_ (by assumption)))) (by omega) (by decide) (by decide) ?_ (by omega)).mono ?_
  · refine ints_new (by simp) fun j hj => ?_
    match j, hj with
    | 0, _ => exact ⟨_, rfl, by decide, by decide⟩
    | 1, _ => exact ⟨_, rfl, by decide, by decide⟩
    | 2, _ => exact ⟨_, rfl, by decide, by decide⟩
    | 3, _ => exact ⟨_, rfl, by decide, by decide⟩
    | 4, _ => exact ⟨_, rfl, by decide, by decide⟩
    | 5, _ => exact ⟨_, rfl, by decide, by decide⟩
    | 6, _ => exact ⟨_, rfl, by decide, by decide⟩
    | 7, _ => exact ⟨_, rfl, by decide, by decide⟩
    | 8, _ => exact ⟨_, rfl, by omega, by omega⟩
  rintro e w2 ⟨_, ⟨k, hk0, hk1, rfl⟩, rfl, hi2, hc2⟩
  have hb2 : Below w.heap.size w w2 := (bal hb1 _).trans (hc2.below (by have := hb1.size; simp; omega) (by simp))
  clear hc2 hb1
  go_wp2_with fail
  go_ret
  exact ⟨k, hk0, hk1, rfl, hb2⟩

set_option maxHeartbeats 2000000 in
theorem drawParse_any (ca : Option Addr) (cl cc : Nat) (w : World) (hc : CodeOk w ca cl) (hs : cl ≤ 65536) :
    Calls Tryd.prog 41 #[.slice ca cl cc] w fun e w' => ∃ s : ByteArray, s.size ≤ 30 ∧ e = .returned (.string s) ∧ Below w.heap.size w w' := by
  go_enter Tryd.func41, Tryd.ntmps41
  go_wp2_with fail
  refine (cur_one 2 0 w.heap.size ca cl cc _ (cur_new hc hs) (by omega) (by omega)).mono ?_
  rintro e w1 ⟨_, ⟨t, rfl⟩, rfl, hi1, hc1⟩
  have hb1 : Below w.heap.size w w1 := (bal (bb w) _).trans (hc1.below (by simp) (by simp))
  have hlt := hi1.lt
  clear hc1
  cases t
  · go_wp2_with fail
    refine (cur_pick_at (lo := 0) (hi := 1999) hi1 (by omega) (by omega) (by omega) (by omega) (by omega)).mono ?_
    rintro e w2 ⟨_, ⟨x, hx0, hx1, rfl⟩, rfl, hi2, hc2⟩
    have hb2 : Below w.heap.size w w2 := hb1.trans (hc2.below hb1.size (by simp))
    clear hc2 hb1
    go_wp2_with fail
    refine (l1Num_any _ _ (by omega) (by omega)).mono ?_
    rintro e w3 ⟨rfl, hb3⟩
    have hb4 : Below w.heap.size w w3 := btr hb2 hb3
    have hl : Hid ((ms (Lib.itoa (x - 1000))).size ≤ 30) := by
      unfold Hid
      rw [ms_size]
      rcases Int.lt_or_le (x - 1000) 0 with h | h
      · obtain ⟨u, hu⟩ : ∃ u : Nat, x - 1000 = -(u : Int) := ⟨(x - 1000).natAbs, by omega⟩
        rw [hu, itoa_neg u (by omega), List.length_cons]
        have := decDigits_len 5 u (by omega)
        omega
      · have := itoa_len h (by omega)
        omega
    clear hb2 hb3
    go_wp2_with fail
    go_ret
    exact ⟨_, hl.out, rfl, hb4⟩
  · go_wp2_with fail
    refine (cur_of (SizeLe 30) w1.heap.size 0 11 11 2 w.heap.size ca cl cc _ (hi1.grow (by repeat (first | exact bb _ | assumption | refine bal ?_ _ | refine bdr ?_ | refine bdn ?_ _ | refine bst ?_ (by simp <;> omega) _ | refine btr ?_ (by assumption)))) (by omega) (by decide) (by decide) ?_ (by omega)).mono ?_
    · refine strs_new (by simp) fun j hj => ?_
      match j, hj with
      | 0, _ => exact ⟨_, rfl, size_le (by decide)⟩
      | 1, _ => exact ⟨_, rfl, size_le (by decide)⟩
      | 2, _ => exact ⟨_, rfl, size_le (by decide)⟩
      | 3, _ => exact ⟨_, rfl, size_le (by decide)⟩
      | 4, _ => exact ⟨_, rfl, size_le (by decide)⟩
      | 5, _ => exact ⟨_, rfl, size_le (by decide)⟩
      | 6, _ => exact ⟨_, rfl, size_le (by decide)⟩
      | 7, _ => exact ⟨_, rfl, size_le (by decide)⟩
      | 8, _ => exact ⟨_, rfl, size_le (by decide)⟩
      | 9, _ => exact ⟨_, rfl, size_le (by decide)⟩
      | 10, _ => exact ⟨_, rfl, size_le (by decide)⟩
    rintro e w2 ⟨_, ⟨s, hs1, rfl⟩, rfl, hi2, hc2⟩
    have hb2 : Below w.heap.size w w2 := (bal hb1 _).trans (hc2.below (by have := hb1.size; simp; omega) (by simp))
    clear hc2 hb1
    go_wp2_with fail
    go_ret
    exact ⟨s, hs1, rfl, hb2⟩

set_option maxRecDepth 100000 in
set_option maxHeartbeats 2000000 in
theorem drawSum_any (ca : Option Addr) (cl cc : Nat) (w : World) (hc : CodeOk w ca cl) (hs : cl ≤ 65536) :
    Calls Tryd.prog 44 #[.slice ca cl cc] w fun e w' => ∃ s : ByteArray, s.size ≤ 4000 ∧ e = .returned (.string s) ∧ Below w.heap.size w w' := by
  go_enter Tryd.func44, Tryd.ntmps44
  go_wp2_with fail
  refine (cur_one 20 0 w.heap.size ca cl cc _ (cur_new hc hs) (by omega) (by omega)).mono ?_
  rintro e w1 ⟨_, ⟨t, rfl⟩, rfl, hi1, hc1⟩
  have hb1 : Below w.heap.size w w1 := (bal (bb w) _).trans (hc1.below (by simp) (by simp))
  clear hc1
  cases t
  · go_wp2_with fail
    refine (cur_any1 2 w.heap.size ca cl cc _ hi1 (by omega)).mono ?_
    rintro e w2 ⟨_, ⟨s, hs1, rfl⟩, rfl, hi2, hc2⟩
    have hb2 : Below w.heap.size w w2 := hb1.trans (hc2.below hb1.size (by simp))
    clear hc2 hb1
    go_wp2_with fail
    go_ret
    exact ⟨s, Nat.le_trans hs1 (by decide), rfl, hb2⟩
  · go_wp2_with fail
    refine (cur_pick_at (lo := 0) (hi := 9) hi1 (by omega) (by omega) (by omega) (by omega) (by omega)).mono ?_
    rintro e w2 ⟨_, ⟨x, hx0, hx1, rfl⟩, rfl, hi2, hc2⟩
    have hb2 : Below w.heap.size w w2 := hb1.trans (hc2.below hb1.size (by simp))
    clear hc2 hb1
    obtain ⟨M0, Z0, hz0', hmk0, hcv0⟩ := zero_bytes (3990 + x).toNat (by omega)
    replace hmk0 := fun w => hmk0 (3990 + x) w (by omega)
    have hZs : Hid (Z0.size ≤ 4000) := by unfold Hid; omega
    obtain ⟨q, hq⟩ : ∃ q : Nat, (3990 + x).toNat = q := ⟨_, rfl⟩
    rw [hq] at hmk0 hcv0
    clear hz0' hq
    go_wp2_with fail
    go_ret
    exact ⟨Z0, hZs.out, rfl, bal hb2 _⟩
end Go.Proofs.YtfcekfomhpmgpaaDoor
