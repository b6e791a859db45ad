/- Contracts: whether a list is a book. Printed by gen_book.py. -/
import Derived.Test.YtcapiijpfoapkaaDoorBookH
import Derived.Lib.QuietBelow
namespace Go.Proofs.YtcapiijpfoapkaaDoor
open Go.RowKit

theorem book_no {xs : List Rec} {k : Nat} (hk : k < xs.length) (h : bkOk xs k = false) : bookB xs = false := by
  unfold bookB
  rw [bkOkTo_le (k := k + 1) (by omega) (by rw [bkOkTo_succ, h, Bool.and_false]), Bool.false_and]
theorem rec_no {xs : List Rec} {k : Nat} (hk : k < xs.length) (h : recB xs[k] = false) : bookB xs = false := by
  refine book_no hk ?_
  cases k with
  | zero => rw [bkOk_zero xs hk]; exact h
  | succ k => rw [bkOk_succ xs k hk, h, Bool.false_and]
theorem ok_next {xs : List Rec} {k : Nat} (h : bkOkTo xs k = true) (h2 : bkOk xs k = true) : bkOkTo xs (k + 1) = true := by rw [bkOkTo_succ, h, h2]; rfl
theorem l31Name_at {l : List UInt8} {q : Bool} (h : nameB l = q) (w : World) (hs : l.length ≤ 9223372036854775807) :
    Calls Tryd.prog 27 #[.string (ms l)] w fun e w' => e = .returned (.bool q) ∧ w = w' := h ▸ l31Name_any (ms l) w hs
theorem nameOk_at {l : List UInt8} {q : Bool} (h : nameB l = q) (w : World) (hs : l.length ≤ 9223372036854775807) :
    Calls Tryd.prog 31 #[.string (ms l)] w fun e w' => e = .returned (.bool q) ∧ w = w' := h ▸ nameOk_any (ms l) w hs
theorem l31Before_at {r : Rec} {n : List UInt8} {s : Int} {q : Bool} (h : (Op.bytesLess r.name n || ((r.name == n) && decide (r.sys < s))) = q) (w : World) :
    Calls Tryd.prog 30 #[rcV r, .string (ms n), .int .i64 s] w fun e w' => e = .returned (.bool q) ∧ Below w.heap.size w w' := h ▸ l31Before_any r n s w

set_option maxRecDepth 100000 in
set_option maxHeartbeats 8000000 in
theorem l31Good_any (v : Value) (xs : List Rec) (F : List Nat) (w : World) (hx : rcTy.row false w v xs F) :
    Calls Tryd.prog 15 #[v] w fun e w' => e = .returned (.bool (bookB xs)) ∧ Below w.heap.size w w' := by
  obtain ⟨a, c, rfl, hx1, hx2, hg, hx3⟩ := row_rc hx
  clear hx
  by_cases h24 : (24 : Int) < xs.length
  · have hR : Hid (bookB xs = false) := by unfold Hid bookB; rw [decide_eq_false (show ¬ xs.length ≤ 24 by omega), Bool.and_false]
    go_enter Tryd.func15, Tryd.ntmps15
    go_wp2_with fail
    go_ret
    exact ⟨ret_bool hR.out.symm, bb _⟩
  go_enter Tryd.func15, Tryd.ntmps15
  go_wp2_with fail
  go_loopw [3] (fun i wr => ∃ k : Nat, k ≤ xs.length ∧ i = .int .i64 k ∧ Hid (bkOkTo xs k = true) ∧ Hid (Below w.heap.size w wr)) (fun i _ => xs.length - (intOf i).toNat)
  case atStart => exact ⟨0, Nat.zero_le _, rfl, rfl, bb _⟩
  case round =>
    obtain ⟨k, hk, rfl, HD, HB⟩ := hrel
    by_cases hlt : k < xs.length
    · rcases hx3 with ⟨rfl, rfl⟩ | ⟨hxn, b, off, rfl, rfl, hxc⟩
      · exact absurd hlt (by simp)
      obtain ⟨p0, p1, p2, p3⟩ := hxc k hlt
      have hp := HB.out.block b p0.lt
      have k0 := (p0.keep hp).1
      have k1 := (p1.keep hp).1
      have k2 := (p2.keep hp).1
      have k3 := (p3.keep hp).1
      have hno := Lib.hid (fun h => rec_no (xs := xs) hlt h)
      have hok := hg _ (List.getElem_mem hlt)
      have hnl := hok.1
      have S1 := (Sp.of_below HB.out).alloc_box #[.string (ms xs[k].name), .int .i64 xs[k].sys, .int .i64 xs[k].size, .int .i64 xs[k].extra] 39
      have b0 := S1.cell (i := 0) rfl (o := 0) rfl
      have b1 := S1.cell (i := 0) rfl (o := 1) rfl
      have b2 := S1.cell (i := 0) rfl (o := 2) rfl
      have b3 := S1.cell (i := 0) rfl (o := 3) rfl
      replace S1 := Lib.hid S1
      cases hn : nameB xs[k].name
      · have hR : Hid (bookB xs = false) := hno.out (by unfold recB; rw [hn]; simp)
        have hB := S1.out.below
        clear hno HD HB hxc p0 p1 p2 p3 b0 b1 b2 b3 S1
        go_wp2_with (first | (go_at_call 27; refine (l31Name_at hn _ hnl).mono ?_; rintro e w2 ⟨rfl, rfl⟩) | (go_at_call 28; refine (l31System_any _ _).mono ?_; rintro e w2 ⟨rfl, rfl⟩) | (go_at_call 29; refine (l1In_any _ _ _ _).mono ?_; rintro e w2 ⟨rfl, rfl⟩))
        go_ret
        exact ⟨ret_bool hR.out.symm, hB⟩
      cases hs : inB xs[k].sys 1 4
      · have hR : Hid (bookB xs = false) := hno.out (by unfold recB; rw [hn, hs]; simp)
        have hB := S1.out.below
        clear hno HD HB hxc p0 p1 p2 p3 b0 b1 b2 b3 S1
        go_wp2_with (first | (go_at_call 27; refine (l31Name_at hn _ hnl).mono ?_; rintro e w2 ⟨rfl, rfl⟩) | (go_at_call 28; refine (l31System_any _ _).mono ?_; rintro e w2 ⟨rfl, rfl⟩) | (go_at_call 29; refine (l1In_any _ _ _ _).mono ?_; rintro e w2 ⟨rfl, rfl⟩))
        go_ret
        exact ⟨ret_bool hR.out.symm, hB⟩
      cases hz : inB xs[k].size 1 9999
      · have hR : Hid (bookB xs = false) := hno.out (by unfold recB; rw [hn, hs, hz]; simp)
        have hB := S1.out.below
        clear hno HD HB hxc p0 p1 p2 p3 b0 b1 b2 b3 S1
        go_wp2_with (first | (go_at_call 27; refine (l31Name_at hn _ hnl).mono ?_; rintro e w2 ⟨rfl, rfl⟩) | (go_at_call 28; refine (l31System_any _ _).mono ?_; rintro e w2 ⟨rfl, rfl⟩) | (go_at_call 29; refine (l1In_any _ _ _ _).mono ?_; rintro e w2 ⟨rfl, rfl⟩))
        go_ret
        exact ⟨ret_bool hR.out.symm, hB⟩
      cases he : inB xs[k].extra 0 9999
      · have hR : Hid (bookB xs = false) := hno.out (by unfold recB; rw [hn, hs, hz, he]; simp)
        have hB := S1.out.below
        clear hno HD HB hxc p0 p1 p2 p3 b0 b1 b2 b3 S1
        go_wp2_with (first | (go_at_call 27; refine (l31Name_at hn _ hnl).mono ?_; rintro e w2 ⟨rfl, rfl⟩) | (go_at_call 28; refine (l31System_any _ _).mono ?_; rintro e w2 ⟨rfl, rfl⟩) | (go_at_call 29; refine (l1In_any _ _ _ _).mono ?_; rintro e w2 ⟨rfl, rfl⟩))
        go_ret
        exact ⟨ret_bool hR.out.symm, hB⟩
      have hrec : recB xs[k] = true := by unfold recB; rw [hn, hs, hz, he]; rfl
      rcases k with _ | k
      · have HD2 := Lib.hid (ok_next HD.out (by rw [bkOk_zero xs hlt]; exact hrec))
        clear hno HD HB hxc p0 p1 p2 p3 hrec hok
        simp only [Nat.zero_mul, Nat.add_zero] at k0 k1 k2 k3
        go_wp2_with (first | (go_at_call 27; refine (l31Name_at hn _ hnl).mono ?_; rintro e w2 ⟨rfl, rfl⟩) | (go_at_call 28; refine (l31System_any _ _).mono ?_; rintro e w2 ⟨rfl, rfl⟩) | (go_at_call 29; refine (l1In_any _ _ _ _).mono ?_; rintro e w2 ⟨rfl, rfl⟩))
        refine wp_region_quiet_below (by kernel_rfl) (by kernel_rfl) ?_
        repeat (any_goals (go_big_quiet_step (fail)))
        refine wpQuiet_nil ?_
        rintro w3 ⟨p, rfl⟩
        have HB2 := Lib.hid (S1.out.grow (below_regrown _ p.d p.os)).below
        clear S1 b0 b1 b2 b3
        go_wp2_with fail
        go_roundw
        case rel => exact ⟨1, by omega, by go_num, HD2, HB2⟩
        case measure => simp [intOf]; omega
      · obtain ⟨q0, q1, q2, q3⟩ := hxc k (by omega)
        have hl1 : k < xs.length := by omega
        have m0 := cell_regrown (((q0.keep hp).keep (show (World.alloc _ (.cells #[.string (ms xs[k + 1].name), .int .i64 xs[k + 1].sys, .int .i64 xs[k + 1].size, .int .i64 xs[k + 1].extra] 39)).heap[b]? = _ from (bal (bb _) _).block b (Nat.lt_of_lt_of_le q0.lt HB.out.size))).1)
        have r0 := cell_regrown b0
        have m1 := cell_regrown (((q1.keep hp).keep (show (World.alloc _ (.cells #[.string (ms xs[k + 1].name), .int .i64 xs[k + 1].sys, .int .i64 xs[k + 1].size, .int .i64 xs[k + 1].extra] 39)).heap[b]? = _ from (bal (bb _) _).block b (Nat.lt_of_lt_of_le q1.lt HB.out.size))).1)
        have r1 := cell_regrown b1
        have m2 := cell_regrown (((q2.keep hp).keep (show (World.alloc _ (.cells #[.string (ms xs[k + 1].name), .int .i64 xs[k + 1].sys, .int .i64 xs[k + 1].size, .int .i64 xs[k + 1].extra] 39)).heap[b]? = _ from (bal (bb _) _).block b (Nat.lt_of_lt_of_le q2.lt HB.out.size))).1)
        have r2 := cell_regrown b2
        have m3 := cell_regrown (((q3.keep hp).keep (show (World.alloc _ (.cells #[.string (ms xs[k + 1].name), .int .i64 xs[k + 1].sys, .int .i64 xs[k + 1].size, .int .i64 xs[k + 1].extra] 39)).heap[b]? = _ from (bal (bb _) _).block b (Nat.lt_of_lt_of_le q3.lt HB.out.size))).1)
        have r3 := cell_regrown b3
        have hsub : IntKind.i64.wrap (((k + 1 : Nat) : Int) - 1) = (k : Int) := by rw [IntWalk.i64_in _ (by omega)]; omega
        cases hq : beforeB xs[k] xs[k + 1]
        · skip
          have hR : Hid (bookB xs = false) := book_no hlt (by rw [bkOk_succ xs k hlt, hq, Bool.and_false])
          have hcall := Lib.hid (fun w => l31Before_at (r := xs[k]) (n := xs[k + 1].name) (s := xs[k + 1].sys) hq w)
          clear hno HD HB hxc p0 p1 p2 p3 q0 q1 q2 q3 hrec hok hp hq
          go_wp2_with (first | (go_at_call 27; refine (l31Name_at hn _ hnl).mono ?_; rintro e w2 ⟨rfl, rfl⟩) | (go_at_call 28; refine (l31System_any _ _).mono ?_; rintro e w2 ⟨rfl, rfl⟩) | (go_at_call 29; refine (l1In_any _ _ _ _).mono ?_; rintro e w2 ⟨rfl, rfl⟩))
          refine wp_region_quiet_below (by kernel_rfl) (by kernel_rfl) ?_
          repeat (any_goals (first | go_big_quiet_step ((go_at_call 30; exact Calls.regrown_of (hcall.out _)))))
          refine wpQuiet_nil ?_
          rintro w3 ⟨p, rfl⟩
          have HB2 := Lib.hid (S1.out.grow (below_regrown _ p.d p.os)).below
          clear S1 b0 b1 b2 b3 m0 m1 m2 m3 r0 r1 r2 r3
          go_wp2_with fail
          go_ret
          exact ⟨ret_bool hR.out.symm, HB2.out⟩
        · skip
          have HD2 := Lib.hid (ok_next HD.out (by rw [bkOk_succ xs k hlt, hrec, hq]; rfl))
          have hcall := Lib.hid (fun w => l31Before_at (r := xs[k]) (n := xs[k + 1].name) (s := xs[k + 1].sys) hq w)
          clear hno HD HB hxc p0 p1 p2 p3 q0 q1 q2 q3 hrec hok hp hq
          go_wp2_with (first | (go_at_call 27; refine (l31Name_at hn _ hnl).mono ?_; rintro e w2 ⟨rfl, rfl⟩) | (go_at_call 28; refine (l31System_any _ _).mono ?_; rintro e w2 ⟨rfl, rfl⟩) | (go_at_call 29; refine (l1In_any _ _ _ _).mono ?_; rintro e w2 ⟨rfl, rfl⟩))
          refine wp_region_quiet_below (by kernel_rfl) (by kernel_rfl) ?_
          repeat (any_goals (first | go_big_quiet_step ((go_at_call 30; exact Calls.regrown_of (hcall.out _)))))
          refine wpQuiet_nil ?_
          rintro w3 ⟨p, rfl⟩
          have HB2 := Lib.hid (S1.out.grow (below_regrown _ p.d p.os)).below
          clear S1 b0 b1 b2 b3 m0 m1 m2 m3 r0 r1 r2 r3
          go_wp2_with fail
          go_roundw
          case rel => exact ⟨k + 2, by omega, by go_num, HD2, HB2⟩
          case measure => simp [intOf]; omega
    · obtain rfl : k = xs.length := by omega
      have hR : Hid (bookB xs = true) := by unfold Hid bookB; rw [HD.out, decide_eq_true (show xs.length ≤ 24 by omega)]; rfl
      clear HD
      go_wp2_with fail
      go_ret
      exact ⟨ret_bool hR.out.symm, HB.out⟩

set_option maxRecDepth 100000 in
set_option maxHeartbeats 8000000 in
theorem isBook_any (v : Value) (xs : List Rec) (F : List Nat) (w : World) (hx : rcTy.row false w v xs F) :
    Calls Tryd.prog 18 #[v] w fun e w' => e = .returned (.bool (bookB xs)) ∧ Below w.heap.size w w' := by
  obtain ⟨a, c, rfl, hx1, hx2, hg, hx3⟩ := row_rc hx
  clear hx
  go_enter Tryd.func18, Tryd.ntmps18
  go_wp2_with fail
  go_loopw [7] (fun i wr => ∃ k : Nat, k ≤ xs.length ∧ i = .int .i64 k ∧ Hid (bkOkTo xs k = true) ∧ Hid (Below w.heap.size w wr)) (fun i _ => xs.length - (intOf i).toNat)
  case atStart => exact ⟨0, Nat.zero_le _, rfl, rfl, bb _⟩
  case round =>
    obtain ⟨k, hk, rfl, HD, HB⟩ := hrel
    by_cases hlt : k < xs.length
    · rcases hx3 with ⟨rfl, rfl⟩ | ⟨hxn, b, off, rfl, rfl, hxc⟩
      · exact absurd hlt (by simp)
      obtain ⟨p0, p1, p2, p3⟩ := hxc k hlt
      have hp := HB.out.block b p0.lt
      have k0 := (p0.keep hp).1
      have k1 := (p1.keep hp).1
      have k2 := (p2.keep hp).1
      have k3 := (p3.keep hp).1
      have hno := Lib.hid (fun h => rec_no (xs := xs) hlt h)
      have hok := hg _ (List.getElem_mem hlt)
      have hnl := hok.1
      have S1 := (Sp.of_below HB.out).alloc_box #[.string (ms xs[k].name), .int .i64 xs[k].sys, .int .i64 xs[k].size, .int .i64 xs[k].extra] 39
      have b0 := S1.cell (i := 0) rfl (o := 0) rfl
      have b1 := S1.cell (i := 0) rfl (o := 1) rfl
      have b2 := S1.cell (i := 0) rfl (o := 2) rfl
      have b3 := S1.cell (i := 0) rfl (o := 3) rfl
      replace S1 := Lib.hid S1
      cases hn : nameB xs[k].name
      · have hR : Hid (bookB xs = false) := hno.out (by unfold recB; rw [hn]; simp)
        have hB := S1.out.below
        clear hno HD HB hxc p0 p1 p2 p3 b0 b1 b2 b3 S1
        go_wp2_with (first | (go_at_call 31; refine (nameOk_at hn _ hnl).mono ?_; rintro e w2 ⟨rfl, rfl⟩) | (go_at_call 32; refine (systemOk_any _ _).mono ?_; rintro e w2 ⟨rfl, rfl⟩) | (go_at_call 33; refine (within_any _ _ _ _).mono ?_; rintro e w2 ⟨rfl, rfl⟩))
        go_ret
        exact ⟨ret_bool hR.out.symm, hB⟩
      cases hs : inB xs[k].sys 1 4
      · have hR : Hid (bookB xs = false) := hno.out (by unfold recB; rw [hn, hs]; simp)
        have hB := S1.out.below
        clear hno HD HB hxc p0 p1 p2 p3 b0 b1 b2 b3 S1
        go_wp2_with (first | (go_at_call 31; refine (nameOk_at hn _ hnl).mono ?_; rintro e w2 ⟨rfl, rfl⟩) | (go_at_call 32; refine (systemOk_any _ _).mono ?_; rintro e w2 ⟨rfl, rfl⟩) | (go_at_call 33; refine (within_any _ _ _ _).mono ?_; rintro e w2 ⟨rfl, rfl⟩))
        go_ret
        exact ⟨ret_bool hR.out.symm, hB⟩
      cases hz : inB xs[k].size 1 9999
      · have hR : Hid (bookB xs = false) := hno.out (by unfold recB; rw [hn, hs, hz]; simp)
        have hB := S1.out.below
        clear hno HD HB hxc p0 p1 p2 p3 b0 b1 b2 b3 S1
        go_wp2_with (first | (go_at_call 31; refine (nameOk_at hn _ hnl).mono ?_; rintro e w2 ⟨rfl, rfl⟩) | (go_at_call 32; refine (systemOk_any _ _).mono ?_; rintro e w2 ⟨rfl, rfl⟩) | (go_at_call 33; refine (within_any _ _ _ _).mono ?_; rintro e w2 ⟨rfl, rfl⟩))
        go_ret
        exact ⟨ret_bool hR.out.symm, hB⟩
      cases he : inB xs[k].extra 0 9999
      · have hR : Hid (bookB xs = false) := hno.out (by unfold recB; rw [hn, hs, hz, he]; simp)
        have hB := S1.out.below
        clear hno HD HB hxc p0 p1 p2 p3 b0 b1 b2 b3 S1
        go_wp2_with (first | (go_at_call 31; refine (nameOk_at hn _ hnl).mono ?_; rintro e w2 ⟨rfl, rfl⟩) | (go_at_call 32; refine (systemOk_any _ _).mono ?_; rintro e w2 ⟨rfl, rfl⟩) | (go_at_call 33; refine (within_any _ _ _ _).mono ?_; rintro e w2 ⟨rfl, rfl⟩))
        go_ret
        exact ⟨ret_bool hR.out.symm, hB⟩
      have hrec : recB xs[k] = true := by unfold recB; rw [hn, hs, hz, he]; rfl
      rcases k with _ | k
      · have HD2 := Lib.hid (ok_next HD.out (by rw [bkOk_zero xs hlt]; exact hrec))
        clear hno HD HB hxc p0 p1 p2 p3 hrec hok
        simp only [Nat.zero_mul, Nat.add_zero] at k0 k1 k2 k3
        go_wp2_with (first | (go_at_call 31; refine (nameOk_at hn _ hnl).mono ?_; rintro e w2 ⟨rfl, rfl⟩) | (go_at_call 32; refine (systemOk_any _ _).mono ?_; rintro e w2 ⟨rfl, rfl⟩) | (go_at_call 33; refine (within_any _ _ _ _).mono ?_; rintro e w2 ⟨rfl, rfl⟩))
        refine wp_region_quiet_below (by kernel_rfl) (by kernel_rfl) ?_
        repeat (any_goals (go_big_quiet_step (fail)))
        refine wpQuiet_nil ?_
        rintro w3 ⟨p, rfl⟩
        have HB2 := Lib.hid (S1.out.grow (below_regrown _ p.d p.os)).below
        clear S1 b0 b1 b2 b3
        go_wp2_with fail
        go_roundw
        case rel => exact ⟨1, by omega, by go_num, HD2, HB2⟩
        case measure => simp [intOf]; omega
      · obtain ⟨q0, q1, q2, q3⟩ := hxc k (by omega)
        have hl1 : k < xs.length := by omega
        have m0 := cell_regrown (((q0.keep hp).keep (show (World.alloc _ (.cells #[.string (ms xs[k + 1].name), .int .i64 xs[k + 1].sys, .int .i64 xs[k + 1].size, .int .i64 xs[k + 1].extra] 39)).heap[b]? = _ from (bal (bb _) _).block b (Nat.lt_of_lt_of_le q0.lt HB.out.size))).1)
        have r0 := cell_regrown b0
        have m1 := cell_regrown (((q1.keep hp).keep (show (World.alloc _ (.cells #[.string (ms xs[k + 1].name), .int .i64 xs[k + 1].sys, .int .i64 xs[k + 1].size, .int .i64 xs[k + 1].extra] 39)).heap[b]? = _ from (bal (bb _) _).block b (Nat.lt_of_lt_of_le q1.lt HB.out.size))).1)
        have r1 := cell_regrown b1
        have m2 := cell_regrown (((q2.keep hp).keep (show (World.alloc _ (.cells #[.string (ms xs[k + 1].name), .int .i64 xs[k + 1].sys, .int .i64 xs[k + 1].size, .int .i64 xs[k + 1].extra] 39)).heap[b]? = _ from (bal (bb _) _).block b (Nat.lt_of_lt_of_le q2.lt HB.out.size))).1)
        have r2 := cell_regrown b2
        have m3 := cell_regrown (((q3.keep hp).keep (show (World.alloc _ (.cells #[.string (ms xs[k + 1].name), .int .i64 xs[k + 1].sys, .int .i64 xs[k + 1].size, .int .i64 xs[k + 1].extra] 39)).heap[b]? = _ from (bal (bb _) _).block b (Nat.lt_of_lt_of_le q3.lt HB.out.size))).1)
        have r3 := cell_regrown b3
        have hsub : IntKind.i64.wrap (((k + 1 : Nat) : Int) - 1) = (k : Int) := by rw [IntWalk.i64_in _ (by omega)]; omega
        cases hq : beforeB xs[k] xs[k + 1]
        · skip
          have hR : Hid (bookB xs = false) := book_no hlt (by rw [bkOk_succ xs k hlt, hq, Bool.and_false])
          have hz0 : 0 ≤ cmpR xs[k] xs[k + 1] := (cmpR_neg _ _).2 hq
          have hcall := Lib.hid (fun w => compareRecords_any xs[k] xs[k + 1] w)
          generalize cmpR xs[k] xs[k + 1] = z at hz0 hcall
          clear hno HD HB hxc p0 p1 p2 p3 q0 q1 q2 q3 hrec hok hp hq
          go_wp2_with (first | (go_at_call 31; refine (nameOk_at hn _ hnl).mono ?_; rintro e w2 ⟨rfl, rfl⟩) | (go_at_call 32; refine (systemOk_any _ _).mono ?_; rintro e w2 ⟨rfl, rfl⟩) | (go_at_call 33; refine (within_any _ _ _ _).mono ?_; rintro e w2 ⟨rfl, rfl⟩))
          refine wp_region_quiet_below (by kernel_rfl) (by kernel_rfl) ?_
          repeat (any_goals (first | go_big_quiet_step ((go_at_call 34; exact Calls.regrown_of (hcall.out _)))))
          refine wpQuiet_nil ?_
          rintro w3 ⟨p, rfl⟩
          have HB2 := Lib.hid (S1.out.grow (below_regrown _ p.d p.os)).below
          clear S1 b0 b1 b2 b3 m0 m1 m2 m3 r0 r1 r2 r3
          go_wp2_with fail
          go_ret
          exact ⟨ret_bool hR.out.symm, HB2.out⟩
        · skip
          have HD2 := Lib.hid (ok_next HD.out (by rw [bkOk_succ xs k hlt, hrec, hq]; rfl))
          have hz0 : ¬ 0 ≤ cmpR xs[k] xs[k + 1] := fun h => by rw [(cmpR_neg _ _).1 h] at hq; cases hq
          have hcall := Lib.hid (fun w => compareRecords_any xs[k] xs[k + 1] w)
          generalize cmpR xs[k] xs[k + 1] = z at hz0 hcall
          clear hno HD HB hxc p0 p1 p2 p3 q0 q1 q2 q3 hrec hok hp hq
          go_wp2_with (first | (go_at_call 31; refine (nameOk_at hn _ hnl).mono ?_; rintro e w2 ⟨rfl, rfl⟩) | (go_at_call 32; refine (systemOk_any _ _).mono ?_; rintro e w2 ⟨rfl, rfl⟩) | (go_at_call 33; refine (within_any _ _ _ _).mono ?_; rintro e w2 ⟨rfl, rfl⟩))
          refine wp_region_quiet_below (by kernel_rfl) (by kernel_rfl) ?_
          repeat (any_goals (first | go_big_quiet_step ((go_at_call 34; exact Calls.regrown_of (hcall.out _)))))
          refine wpQuiet_nil ?_
          rintro w3 ⟨p, rfl⟩
          have HB2 := Lib.hid (S1.out.grow (below_regrown _ p.d p.os)).below
          clear S1 b0 b1 b2 b3 m0 m1 m2 m3 r0 r1 r2 r3
          go_wp2_with fail
          go_roundw
          case rel => exact ⟨k + 2, by omega, by go_num, HD2, HB2⟩
          case measure => simp [intOf]; omega
    · obtain rfl : k = xs.length := by omega
      have hR : Hid (bookB xs = decide ((xs.length : Int) ≤ 24)) := by unfold Hid bookB; rw [HD.out, Bool.true_and, decide_eq_decide]; omega
      clear HD
      go_wp2_with fail
      go_ret
      exact ⟨ret_bool hR.out.symm, HB.out⟩
end Go.Proofs.YtcapiijpfoapkaaDoor
