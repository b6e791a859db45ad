/- Lemmas and contracts for a law, put together out of several texts: BookI SepB BookJ BookK BookL RcB BookM BookN BookO BookP BmD BmC. -/
import Derived.Test.YtpiimlmfcdjbbaaGreatDoorMg2
import Derived.Lib.QuietBelow
import Derived.Lib.SlicesCompact
import Derived.Lib.SliceRun
import Derived.Test.YtpiimlmfcdjbbaaGreatDoorMg1
import Derived.Laws.CopyRow
import Derived.Lib.AppendZerosOnto
import Derived.Lib.Overlaps
/- Contracts: whether a list is a book. Printed by gen_book.py. -/
namespace Go.Proofs.YtpiimlmfcdjbbaaGreatDoor
open Go.RowKit

theorem book_no {xs : List Rec} {k : Nat} (hk : k < xs.length) (h : bkOk xs k = false) : bookB xs = false := by
  unfold bookB
  rw [bkOkTo_le (k := k + 1) (by omega) (by rw [bkOkTo_succ, h, Bool.and_false]), Bool.false_and]
theorem rec_no {xs : List Rec} {k : Nat} (hk : k < xs.length) (h : recB xs[k] = false) : bookB xs = false := by
  refine book_no hk ?_
  cases k with
  | zero => rw [bkOk_zero xs hk]; exact h
  | succ k => rw [bkOk_succ xs k hk, h, Bool.false_and]
theorem ok_next {xs : List Rec} {k : Nat} (h : bkOkTo xs k = true) (h2 : bkOk xs k = true) : bkOkTo xs (k + 1) = true := by rw [bkOkTo_succ, h, h2]; rfl
theorem l31Name_at {l : List UInt8} {q : Bool} (h : nameB l = q) (w : World) (hs : l.length ≤ 9223372036854775807) :
    Calls Tryz.prog 48 #[.string (ms l)] w fun e w' => e = .returned (.bool q) ∧ w = w' := h ▸ l31Name_any (ms l) w hs
theorem nameOk_at {l : List UInt8} {q : Bool} (h : nameB l = q) (w : World) (hs : l.length ≤ 9223372036854775807) :
    Calls Tryz.prog 22 #[.string (ms l)] w fun e w' => e = .returned (.bool q) ∧ w = w' := h ▸ nameOk_any (ms l) w hs
theorem l31Before_at {r : Rec} {n : List UInt8} {s : Int} {q : Bool} (h : (Op.bytesLess r.name n || ((r.name == n) && decide (r.sys < s))) = q) (w : World) :
    Calls Tryz.prog 51 #[rcV r, .string (ms n), .int .i64 s] w fun e w' => e = .returned (.bool q) ∧ Below w.heap.size w w' := h ▸ l31Before_any r n s w

set_option maxRecDepth 100000 in
set_option maxHeartbeats 8000000 in
theorem l31Good_any (v : Value) (xs : List Rec) (F : List Nat) (w : World) (hx : rcTy.row false w v xs F) :
    Calls Tryz.prog 20 #[v] w fun e w' => e = .returned (.bool (bookB xs)) ∧ Below w.heap.size w w' := by
  obtain ⟨a, c, rfl, hx1, hx2, hg, hx3⟩ := row_rc hx
  clear hx
  by_cases h24 : (24 : Int) < xs.length
  · have hR : Hid (bookB xs = false) := by unfold Hid bookB; rw [decide_eq_false (show ¬ xs.length ≤ 24 by omega), Bool.and_false]
    go_enter Tryz.func20, Tryz.ntmps20
    go_wp2_with fail
    go_ret
    exact ⟨ret_bool hR.out.symm, bb _⟩
  go_enter Tryz.func20, Tryz.ntmps20
  go_wp2_with fail
  go_loopw [3] (fun i wr => ∃ k : Nat, k ≤ xs.length ∧ i = .int .i64 k ∧ Hid (bkOkTo xs k = true) ∧ Hid (Below w.heap.size w wr)) (fun i _ => xs.length - (intOf i).toNat)
  case atStart => exact ⟨0, Nat.zero_le _, rfl, rfl, bb _⟩
  case round =>
    obtain ⟨k, hk, rfl, HD, HB⟩ := hrel
    by_cases hlt : k < xs.length
    · rcases hx3 with ⟨rfl, rfl⟩ | ⟨hxn, b, off, rfl, rfl, hxc⟩
      · exact absurd hlt (by simp)
      obtain ⟨p0, p1, p2, p3⟩ := hxc k hlt
      have hp := HB.out.block b p0.lt
      have k0 := (p0.keep hp).1
      have k1 := (p1.keep hp).1
      have k2 := (p2.keep hp).1
      have k3 := (p3.keep hp).1
      have hno := Lib.hid (fun h => rec_no (xs := xs) hlt h)
      have hok := hg _ (List.getElem_mem hlt)
      have hnl := hok.1
      have S1 := (Sp.of_below HB.out).alloc_box #[.string (ms xs[k].name), .int .i64 xs[k].sys, .int .i64 xs[k].size, .int .i64 xs[k].extra] 30
      have b0 := S1.cell (i := 0) rfl (o := 0) rfl
      have b1 := S1.cell (i := 0) rfl (o := 1) rfl
      have b2 := S1.cell (i := 0) rfl (o := 2) rfl
      have b3 := S1.cell (i := 0) rfl (o := 3) rfl
      replace S1 := Lib.hid S1
      cases hn : nameB xs[k].name
      · have hR : Hid (bookB xs = false) := hno.out (by unfold recB; rw [hn]; simp)
        have hB := S1.out.below
        clear hno HD HB hxc p0 p1 p2 p3 b0 b1 b2 b3 S1
        go_wp2_with (first | (go_at_call 48; refine (l31Name_at hn _ hnl).mono ?_; rintro e w2 ⟨rfl, rfl⟩) | (go_at_call 49; refine (l31System_any _ _).mono ?_; rintro e w2 ⟨rfl, rfl⟩) | (go_at_call 50; refine (l1In_any _ _ _ _).mono ?_; rintro e w2 ⟨rfl, rfl⟩))
        go_ret
        exact ⟨ret_bool hR.out.symm, hB⟩
      cases hs : inB xs[k].sys 1 4
      · have hR : Hid (bookB xs = false) := hno.out (by unfold recB; rw [hn, hs]; simp)
        have hB := S1.out.below
        clear hno HD HB hxc p0 p1 p2 p3 b0 b1 b2 b3 S1
        go_wp2_with (first | (go_at_call 48; refine (l31Name_at hn _ hnl).mono ?_; rintro e w2 ⟨rfl, rfl⟩) | (go_at_call 49; refine (l31System_any _ _).mono ?_; rintro e w2 ⟨rfl, rfl⟩) | (go_at_call 50; refine (l1In_any _ _ _ _).mono ?_; rintro e w2 ⟨rfl, rfl⟩))
        go_ret
        exact ⟨ret_bool hR.out.symm, hB⟩
      cases hz : inB xs[k].size 1 9999
      · have hR : Hid (bookB xs = false) := hno.out (by unfold recB; rw [hn, hs, hz]; simp)
        have hB := S1.out.below
        clear hno HD HB hxc p0 p1 p2 p3 b0 b1 b2 b3 S1
        go_wp2_with (first | (go_at_call 48; refine (l31Name_at hn _ hnl).mono ?_; rintro e w2 ⟨rfl, rfl⟩) | (go_at_call 49; refine (l31System_any _ _).mono ?_; rintro e w2 ⟨rfl, rfl⟩) | (go_at_call 50; refine (l1In_any _ _ _ _).mono ?_; rintro e w2 ⟨rfl, rfl⟩))
        go_ret
        exact ⟨ret_bool hR.out.symm, hB⟩
      cases he : inB xs[k].extra 0 9999
      · have hR : Hid (bookB xs = false) := hno.out (by unfold recB; rw [hn, hs, hz, he]; simp)
        have hB := S1.out.below
        clear hno HD HB hxc p0 p1 p2 p3 b0 b1 b2 b3 S1
        go_wp2_with (first | (go_at_call 48; refine (l31Name_at hn _ hnl).mono ?_; rintro e w2 ⟨rfl, rfl⟩) | (go_at_call 49; refine (l31System_any _ _).mono ?_; rintro e w2 ⟨rfl, rfl⟩) | (go_at_call 50; refine (l1In_any _ _ _ _).mono ?_; rintro e w2 ⟨rfl, rfl⟩))
        go_ret
        exact ⟨ret_bool hR.out.symm, hB⟩
      have hrec : recB xs[k] = true := by unfold recB; rw [hn, hs, hz, he]; rfl
      rcases k with _ | k
      · have HD2 := Lib.hid (ok_next HD.out (by rw [bkOk_zero xs hlt]; exact hrec))
        clear hno HD HB hxc p0 p1 p2 p3 hrec hok
        simp only [Nat.zero_mul, Nat.add_zero] at k0 k1 k2 k3
        go_wp2_with (first | (go_at_call 48; refine (l31Name_at hn _ hnl).mono ?_; rintro e w2 ⟨rfl, rfl⟩) | (go_at_call 49; refine (l31System_any _ _).mono ?_; rintro e w2 ⟨rfl, rfl⟩) | (go_at_call 50; refine (l1In_any _ _ _ _).mono ?_; rintro e w2 ⟨rfl, rfl⟩))
        refine wp_region_quiet_below (by kernel_rfl) (by kernel_rfl) ?_
        repeat (any_goals (go_big_quiet_step (fail)))
        refine wpQuiet_nil ?_
        rintro w3 ⟨p, rfl⟩
        have HB2 := Lib.hid (S1.out.grow (below_regrown _ p.d p.os)).below
        clear S1 b0 b1 b2 b3
        go_wp2_with fail
        go_roundw
        case rel => exact ⟨1, by omega, by go_num, HD2, HB2⟩
        case measure => simp [intOf]; omega
      · obtain ⟨q0, q1, q2, q3⟩ := hxc k (by omega)
        have hl1 : k < xs.length := by omega
        have m0 := cell_regrown (((q0.keep hp).keep (show (World.alloc _ (.cells #[.string (ms xs[k + 1].name), .int .i64 xs[k + 1].sys, .int .i64 xs[k + 1].size, .int .i64 xs[k + 1].extra] 30)).heap[b]? = _ from (bal (bb _) _).block b (Nat.lt_of_lt_of_le q0.lt HB.out.size))).1)
        have r0 := cell_regrown b0
        have m1 := cell_regrown (((q1.keep hp).keep (show (World.alloc _ (.cells #[.string (ms xs[k + 1].name), .int .i64 xs[k + 1].sys, .int .i64 xs[k + 1].size, .int .i64 xs[k + 1].extra] 30)).heap[b]? = _ from (bal (bb _) _).block b (Nat.lt_of_lt_of_le q1.lt HB.out.size))).1)
        have r1 := cell_regrown b1
        have m2 := cell_regrown (((q2.keep hp).keep (show (World.alloc _ (.cells #[.string (ms xs[k + 1].name), .int .i64 xs[k + 1].sys, .int .i64 xs[k + 1].size, .int .i64 xs[k + 1].extra] 30)).heap[b]? = _ from (bal (bb _) _).block b (Nat.lt_of_lt_of_le q2.lt HB.out.size))).1)
        have r2 := cell_regrown b2
        have m3 := cell_regrown (((q3.keep hp).keep (show (World.alloc _ (.cells #[.string (ms xs[k + 1].name), .int .i64 xs[k + 1].sys, .int .i64 xs[k + 1].size, .int .i64 xs[k + 1].extra] 30)).heap[b]? = _ from (bal (bb _) _).block b (Nat.lt_of_lt_of_le q3.lt HB.out.size))).1)
        have r3 := cell_regrown b3
        have hsub : IntKind.i64.wrap (((k + 1 : Nat) : Int) - 1) = (k : Int) := by rw [IntWalk.i64_in _ (by omega)]; omega
        cases hq : beforeB xs[k] xs[k + 1]
        · skip
          have hR : Hid (bookB xs = false) := book_no hlt (by rw [bkOk_succ xs k hlt, hq, Bool.and_false])
          have hcall := Lib.hid (fun w => l31Before_at (r := xs[k]) (n := xs[k + 1].name) (s := xs[k + 1].sys) hq w)
          clear hno HD HB hxc p0 p1 p2 p3 q0 q1 q2 q3 hrec hok hp hq
          go_wp2_with (first | (go_at_call 48; refine (l31Name_at hn _ hnl).mono ?_; rintro e w2 ⟨rfl, rfl⟩) | (go_at_call 49; refine (l31System_any _ _).mono ?_; rintro e w2 ⟨rfl, rfl⟩) | (go_at_call 50; refine (l1In_any _ _ _ _).mono ?_; rintro e w2 ⟨rfl, rfl⟩))
          refine wp_region_quiet_below (by kernel_rfl) (by kernel_rfl) ?_
          repeat (any_goals (first | go_big_quiet_step ((go_at_call 51; exact Calls.regrown_of (hcall.out _)))))
          refine wpQuiet_nil ?_
          rintro w3 ⟨p, rfl⟩
          have HB2 := Lib.hid (S1.out.grow (below_regrown _ p.d p.os)).below
          clear S1 b0 b1 b2 b3 m0 m1 m2 m3 r0 r1 r2 r3
          go_wp2_with fail
          go_ret
          exact ⟨ret_bool hR.out.symm, HB2.out⟩
        · skip
          have HD2 := Lib.hid (ok_next HD.out (by rw [bkOk_succ xs k hlt, hrec, hq]; rfl))
          have hcall := Lib.hid (fun w => l31Before_at (r := xs[k]) (n := xs[k + 1].name) (s := xs[k + 1].sys) hq w)
          clear hno HD HB hxc p0 p1 p2 p3 q0 q1 q2 q3 hrec hok hp hq
          go_wp2_with (first | (go_at_call 48; refine (l31Name_at hn _ hnl).mono ?_; rintro e w2 ⟨rfl, rfl⟩) | (go_at_call 49; refine (l31System_any _ _).mono ?_; rintro e w2 ⟨rfl, rfl⟩) | (go_at_call 50; refine (l1In_any _ _ _ _).mono ?_; rintro e w2 ⟨rfl, rfl⟩))
          refine wp_region_quiet_below (by kernel_rfl) (by kernel_rfl) ?_
          repeat (any_goals (first | go_big_quiet_step ((go_at_call 51; exact Calls.regrown_of (hcall.out _)))))
          refine wpQuiet_nil ?_
          rintro w3 ⟨p, rfl⟩
          have HB2 := Lib.hid (S1.out.grow (below_regrown _ p.d p.os)).below
          clear S1 b0 b1 b2 b3 m0 m1 m2 m3 r0 r1 r2 r3
          go_wp2_with fail
          go_roundw
          case rel => exact ⟨k + 2, by omega, by go_num, HD2, HB2⟩
          case measure => simp [intOf]; omega
    · obtain rfl : k = xs.length := by omega
      have hR : Hid (bookB xs = true) := by unfold Hid bookB; rw [HD.out, decide_eq_true (show xs.length ≤ 24 by omega)]; rfl
      clear HD
      go_wp2_with fail
      go_ret
      exact ⟨ret_bool hR.out.symm, HB.out⟩

set_option maxRecDepth 100000 in
set_option maxHeartbeats 8000000 in
theorem isBook_any (v : Value) (xs : List Rec) (F : List Nat) (w : World) (hx : rcTy.row false w v xs F) :
    Calls Tryz.prog 8 #[v] w fun e w' => e = .returned (.bool (bookB xs)) ∧ Below w.heap.size w w' := by
  obtain ⟨a, c, rfl, hx1, hx2, hg, hx3⟩ := row_rc hx
  clear hx
  go_enter Tryz.func8, Tryz.ntmps8
  go_wp2_with fail
  go_loopw [7] (fun i wr => ∃ k : Nat, k ≤ xs.length ∧ i = .int .i64 k ∧ Hid (bkOkTo xs k = true) ∧ Hid (Below w.heap.size w wr)) (fun i _ => xs.length - (intOf i).toNat)
  case atStart => exact ⟨0, Nat.zero_le _, rfl, rfl, bb _⟩
  case round =>
    obtain ⟨k, hk, rfl, HD, HB⟩ := hrel
    by_cases hlt : k < xs.length
    · rcases hx3 with ⟨rfl, rfl⟩ | ⟨hxn, b, off, rfl, rfl, hxc⟩
      · exact absurd hlt (by simp)
      obtain ⟨p0, p1, p2, p3⟩ := hxc k hlt
      have hp := HB.out.block b p0.lt
      have k0 := (p0.keep hp).1
      have k1 := (p1.keep hp).1
      have k2 := (p2.keep hp).1
      have k3 := (p3.keep hp).1
      have hno := Lib.hid (fun h => rec_no (xs := xs) hlt h)
      have hok := hg _ (List.getElem_mem hlt)
      have hnl := hok.1
      have S1 := (Sp.of_below HB.out).alloc_box #[.string (ms xs[k].name), .int .i64 xs[k].sys, .int .i64 xs[k].size, .int .i64 xs[k].extra] 30
      have b0 := S1.cell (i := 0) rfl (o := 0) rfl
      have b1 := S1.cell (i := 0) rfl (o := 1) rfl
      have b2 := S1.cell (i := 0) rfl (o := 2) rfl
      have b3 := S1.cell (i := 0) rfl (o := 3) rfl
      replace S1 := Lib.hid S1
      cases hn : nameB xs[k].name
      · have hR : Hid (bookB xs = false) := hno.out (by unfold recB; rw [hn]; simp)
        have hB := S1.out.below
        clear hno HD HB hxc p0 p1 p2 p3 b0 b1 b2 b3 S1
        go_wp2_with (first | (go_at_call 22; refine (nameOk_at hn _ hnl).mono ?_; rintro e w2 ⟨rfl, rfl⟩) | (go_at_call 23; refine (systemOk_any _ _).mono ?_; rintro e w2 ⟨rfl, rfl⟩) | (go_at_call 24; refine (within_any _ _ _ _).mono ?_; rintro e w2 ⟨rfl, rfl⟩))
        go_ret
        exact ⟨ret_bool hR.out.symm, hB⟩
      cases hs : inB xs[k].sys 1 4
      · have hR : Hid (bookB xs = false) := hno.out (by unfold recB; rw [hn, hs]; simp)
        have hB := S1.out.below
        clear hno HD HB hxc p0 p1 p2 p3 b0 b1 b2 b3 S1
        go_wp2_with (first | (go_at_call 22; refine (nameOk_at hn _ hnl).mono ?_; rintro e w2 ⟨rfl, rfl⟩) | (go_at_call 23; refine (systemOk_any _ _).mono ?_; rintro e w2 ⟨rfl, rfl⟩) | (go_at_call 24; refine (within_any _ _ _ _).mono ?_; rintro e w2 ⟨rfl, rfl⟩))
        go_ret
        exact ⟨ret_bool hR.out.symm, hB⟩
      cases hz : inB xs[k].size 1 9999
      · have hR : Hid (bookB xs = false) := hno.out (by unfold recB; rw [hn, hs, hz]; simp)
        have hB := S1.out.below
        clear hno HD HB hxc p0 p1 p2 p3 b0 b1 b2 b3 S1
        go_wp2_with (first | (go_at_call 22; refine (nameOk_at hn _ hnl).mono ?_; rintro e w2 ⟨rfl, rfl⟩) | (go_at_call 23; refine (systemOk_any _ _).mono ?_; rintro e w2 ⟨rfl, rfl⟩) | (go_at_call 24; refine (within_any _ _ _ _).mono ?_; rintro e w2 ⟨rfl, rfl⟩))
        go_ret
        exact ⟨ret_bool hR.out.symm, hB⟩
      cases he : inB xs[k].extra 0 9999
      · have hR : Hid (bookB xs = false) := hno.out (by unfold recB; rw [hn, hs, hz, he]; simp)
        have hB := S1.out.below
        clear hno HD HB hxc p0 p1 p2 p3 b0 b1 b2 b3 S1
        go_wp2_with (first | (go_at_call 22; refine (nameOk_at hn _ hnl).mono ?_; rintro e w2 ⟨rfl, rfl⟩) | (go_at_call 23; refine (systemOk_any _ _).mono ?_; rintro e w2 ⟨rfl, rfl⟩) | (go_at_call 24; refine (within_any _ _ _ _).mono ?_; rintro e w2 ⟨rfl, rfl⟩))
        go_ret
        exact ⟨ret_bool hR.out.symm, hB⟩
      have hrec : recB xs[k] = true := by unfold recB; rw [hn, hs, hz, he]; rfl
      rcases k with _ | k
      · have HD2 := Lib.hid (ok_next HD.out (by rw [bkOk_zero xs hlt]; exact hrec))
        clear hno HD HB hxc p0 p1 p2 p3 hrec hok
        simp only [Nat.zero_mul, Nat.add_zero] at k0 k1 k2 k3
        go_wp2_with (first | (go_at_call 22; refine (nameOk_at hn _ hnl).mono ?_; rintro e w2 ⟨rfl, rfl⟩) | (go_at_call 23; refine (systemOk_any _ _).mono ?_; rintro e w2 ⟨rfl, rfl⟩) | (go_at_call 24; refine (within_any _ _ _ _).mono ?_; rintro e w2 ⟨rfl, rfl⟩))
        refine wp_region_quiet_below (by kernel_rfl) (by kernel_rfl) ?_
        repeat (any_goals (go_big_quiet_step (fail)))
        refine wpQuiet_nil ?_
        rintro w3 ⟨p, rfl⟩
        have HB2 := Lib.hid (S1.out.grow (below_regrown _ p.d p.os)).below
        clear S1 b0 b1 b2 b3
        go_wp2_with fail
        go_roundw
        case rel => exact ⟨1, by omega, by go_num, HD2, HB2⟩
        case measure => simp [intOf]; omega
      · obtain ⟨q0, q1, q2, q3⟩ := hxc k (by omega)
        have hl1 : k < xs.length := by omega
        have m0 := cell_regrown (((q0.keep hp).keep (show (World.alloc _ (.cells #[.string (ms xs[k + 1].name), .int .i64 xs[k + 1].sys, .int .i64 xs[k + 1].size, .int .i64 xs[k + 1].extra] 30)).heap[b]? = _ from (bal (bb _) _).block b (Nat.lt_of_lt_of_le q0.lt HB.out.size))).1)
        have r0 := cell_regrown b0
        have m1 := cell_regrown (((q1.keep hp).keep (show (World.alloc _ (.cells #[.string (ms xs[k + 1].name), .int .i64 xs[k + 1].sys, .int .i64 xs[k + 1].size, .int .i64 xs[k + 1].extra] 30)).heap[b]? = _ from (bal (bb _) _).block b (Nat.lt_of_lt_of_le q1.lt HB.out.size))).1)
        have r1 := cell_regrown b1
        have m2 := cell_regrown (((q2.keep hp).keep (show (World.alloc _ (.cells #[.string (ms xs[k + 1].name), .int .i64 xs[k + 1].sys, .int .i64 xs[k + 1].size, .int .i64 xs[k + 1].extra] 30)).heap[b]? = _ from (bal (bb _) _).block b (Nat.lt_of_lt_of_le q2.lt HB.out.size))).1)
        have r2 := cell_regrown b2
        have m3 := cell_regrown (((q3.keep hp).keep (show (World.alloc _ (.cells #[.string (ms xs[k + 1].name), .int .i64 xs[k + 1].sys, .int .i64 xs[k + 1].size, .int .i64 xs[k + 1].extra] 30)).heap[b]? = _ from (bal (bb _) _).block b (Nat.lt_of_lt_of_le q3.lt HB.out.size))).1)
        have r3 := cell_regrown b3
        have hsub : IntKind.i64.wrap (((k + 1 : Nat) : Int) - 1) = (k : Int) := by rw [IntWalk.i64_in _ (by omega)]; omega
        cases hq : beforeB xs[k] xs[k + 1]
        · skip
          have hR : Hid (bookB xs = false) := book_no hlt (by rw [bkOk_succ xs k hlt, hq, Bool.and_false])
          have hz0 : 0 ≤ cmpR xs[k] xs[k + 1] := (cmpR_neg _ _).2 hq
          have hcall := Lib.hid (fun w => compareRecords_any xs[k] xs[k + 1] w)
          generalize cmpR xs[k] xs[k + 1] = z at hz0 hcall
          clear hno HD HB hxc p0 p1 p2 p3 q0 q1 q2 q3 hrec hok hp hq
          go_wp2_with (first | (go_at_call 22; refine (nameOk_at hn _ hnl).mono ?_; rintro e w2 ⟨rfl, rfl⟩) | (go_at_call 23; refine (systemOk_any _ _).mono ?_; rintro e w2 ⟨rfl, rfl⟩) | (go_at_call 24; refine (within_any _ _ _ _).mono ?_; rintro e w2 ⟨rfl, rfl⟩))
          refine wp_region_quiet_below (by kernel_rfl) (by kernel_rfl) ?_
          repeat (any_goals (first | go_big_quiet_step ((go_at_call 25; exact Calls.regrown_of (hcall.out _)))))
          refine wpQuiet_nil ?_
          rintro w3 ⟨p, rfl⟩
          have HB2 := Lib.hid (S1.out.grow (below_regrown _ p.d p.os)).below
          clear S1 b0 b1 b2 b3 m0 m1 m2 m3 r0 r1 r2 r3
          go_wp2_with fail
          go_ret
          exact ⟨ret_bool hR.out.symm, HB2.out⟩
        · skip
          have HD2 := Lib.hid (ok_next HD.out (by rw [bkOk_succ xs k hlt, hrec, hq]; rfl))
          have hz0 : ¬ 0 ≤ cmpR xs[k] xs[k + 1] := fun h => by rw [(cmpR_neg _ _).1 h] at hq; cases hq
          have hcall := Lib.hid (fun w => compareRecords_any xs[k] xs[k + 1] w)
          generalize cmpR xs[k] xs[k + 1] = z at hz0 hcall
          clear hno HD HB hxc p0 p1 p2 p3 q0 q1 q2 q3 hrec hok hp hq
          go_wp2_with (first | (go_at_call 22; refine (nameOk_at hn _ hnl).mono ?_; rintro e w2 ⟨rfl, rfl⟩) | (go_at_call 23; refine (systemOk_any _ _).mono ?_; rintro e w2 ⟨rfl, rfl⟩) | (go_at_call 24; refine (within_any _ _ _ _).mono ?_; rintro e w2 ⟨rfl, rfl⟩))
          refine wp_region_quiet_below (by kernel_rfl) (by kernel_rfl) ?_
          repeat (any_goals (first | go_big_quiet_step ((go_at_call 25; exact Calls.regrown_of (hcall.out _)))))
          refine wpQuiet_nil ?_
          rintro w3 ⟨p, rfl⟩
          have HB2 := Lib.hid (S1.out.grow (below_regrown _ p.d p.os)).below
          clear S1 b0 b1 b2 b3 m0 m1 m2 m3 r0 r1 r2 r3
          go_wp2_with fail
          go_roundw
          case rel => exact ⟨k + 2, by omega, by go_num, HD2, HB2⟩
          case measure => simp [intOf]; omega
    · obtain rfl : k = xs.length := by omega
      have hR : Hid (bookB xs = decide ((xs.length : Int) ≤ 24)) := by unfold Hid bookB; rw [HD.out, Bool.true_and, decide_eq_decide]; omega
      clear HD
      go_wp2_with fail
      go_ret
      exact ⟨ret_bool hR.out.symm, HB.out⟩
end Go.Proofs.YtpiimlmfcdjbbaaGreatDoor

/- append onto an own row from any slice, empty or nil let in. No program in sight. -/
namespace Go.Proofs.YtpiimlmfcdjbbaaGreatDoor
open Go.RowKit

/-- A slice whose cells are these; a nil or empty one has none. -/
def Src (w : World) (A : Option Addr) (m size : Nat) (news : List Value) : Prop :=
  (m = 0 ∧ news = []) ∨ ∃ ad, A = some ad ∧ news.length = m * size ∧ ∀ j u, news[j]? = some u → w.cell? (ad.add j) = some u

section
variable {P : Program} {w : World} {t ty e : TypeId} {i : TypeInfo} {z : Value} {size bytes : Nat}
theorem run_append_src (ht : P.underlying t = some (.slice e)) (hi : P.info? e = some i) (hz : i.zero = some z) (hsize : i.size = size) (hby : i.bytes = bytes) (hzs : z.cells.size = size) (hsz : 0 < size)
    (v : Value) (n : Nat) (xs : List Value) (hown : w.ownsRow 0 e size v n xs) (A : Option Addr) (m c : Nat) (news : List Value) (hsrc : Src w A m size news) (h1 : ∀ u ∈ news, u.oneCell' = true)
    (h63 : n + m ≤ maxLen) (hbytes : (n + m) * bytes ≤ 140737488355328) :
    ∃ v' w', (Builtin.append_ #[t, t] ty #[v, .slice A m c]).run P w = .ok v' w' ∧ w'.ownsRow 0 e size v' (n + m) (xs ++ news) ∧ w.grownBy w' v.ownBlock ∧ (v'.ownBlock = v.ownBlock ∨ v'.ownBlock = some w.heap.size) := by
  rcases hsrc with ⟨rfl, rfl⟩ | ⟨ad, ha, hl, hn⟩
  · cases A with
    | some ad =>
      obtain ⟨v', w', h2, h3, h4, _, h5⟩ := run_append_own_at (P := P) w 0 t ty e i z size bytes ht hi hz hsize hby hzs hsz v n xs hown ad 0 c [] (by simp) (by simp) h1 h63 hbytes (Nat.zero_le _)
      exact ⟨v', w', h2, h3, h4, h5⟩
    | none =>
      refine ⟨v, w, ?_, by simpa using hown, World.grownBy.refl w _, .inl rfl⟩
      obtain ⟨_, ⟨rfl, rfl⟩ | ⟨g, cap, cur, rfl, _, _, hn, _⟩⟩ := hown
      · simp [Builtin.append_, run_underlying ht, sizeOf, typeInfo, hi, Builtin.lenOf, Builtin.firstCells]
      · simp [Builtin.append_, run_underlying ht, sizeOf, typeInfo, hi, Builtin.lenOf, Builtin.firstCells, hn, storeCells]
  · subst ha
    obtain ⟨v', w', h2, h3, h4, _, h5⟩ := run_append_own_at (P := P) w 0 t ty e i z size bytes ht hi hz hsize hby hzs hsz v n xs hown ad m c news hl hn h1 h63 hbytes (Nat.zero_le _)
    exact ⟨v', w', h2, h3, h4, h5⟩
theorem wp_append_src {o : Oper} {a : Act} {K : Act → World → Prop} {Q : Exit → Act → World → Prop} (s x : Operand)
    (ho : o.op = .call { callee := .builtin .append, args := #[s, x], argTypes := #[t, t] })
    (ht : P.underlying t = some (.slice e)) (hi : P.info? e = some i) (hz : i.zero = some z) (hsize : i.size = size) (hby : i.bytes = bytes) (hzs : z.cells.size = size) (hsz : 0 < size)
    (v : Value) (n : Nat) (xs : List Value) (hs : a.eval s = v) (hown : w.ownsRow 0 e size v n xs) (A : Option Addr) (m c : Nat) (news : List Value) (hx : a.eval x = .slice A m c) (hsrc : Src w A m size news) (h1 : ∀ u ∈ news, u.oneCell' = true)
    (h63 : n + m ≤ maxLen) (hbytes : (n + m) * bytes ≤ 140737488355328)
    (h : ∀ v' w', w'.ownsRow 0 e size v' (n + m) (xs ++ news) → w.grownBy w' v.ownBlock → (v'.ownBlock = v.ownBlock ∨ v'.ownBlock = some w.heap.size) → K (a.put o.dst v') w') : o.wp P a w K Q := by
  obtain ⟨v', w', hr, h2, h3, h4⟩ := run_append_src (P := P) (w := w) (ty := o.type) ht hi hz hsize hby hzs hsz v n xs hown A m c news hsrc h1 h63 hbytes
  unfold Oper.wp execOp
  simp only [ho, resolve, invoke, builtin, Sem.run_bind, Sem.run_pure, Result.andThen_ok, List.map_toArray, List.map_cons, List.map_nil, hs, hx, hr]
  exact h v' w' h2 h3 h4
theorem wpList_append_src {ops : Array Oper} {rest : List Oper} {o : Oper} {a : Act} {Q : Exit → Act → World → Prop} (hgd : o.guard = none) (s x : Operand)
    (ho : o.op = .call { callee := .builtin .append, args := #[s, x], argTypes := #[t, t] })
    (ht : P.underlying t = some (.slice e)) (hi : P.info? e = some i) (hz : i.zero = some z) (hsize : i.size = size) (hby : i.bytes = bytes) (hzs : z.cells.size = size) (hsz : 0 < size)
    (v : Value) (n : Nat) (xs : List Value) (hs : a.eval s = v) (hown : w.ownsRow 0 e size v n xs) (A : Option Addr) (m c : Nat) (news : List Value) (hx : a.eval x = .slice A m c) (hsrc : Src w A m size news) (h1 : ∀ u ∈ news, u.oneCell' = true)
    (h63 : n + m ≤ maxLen) (hbytes : (n + m) * bytes ≤ 140737488355328)
    (h : ∀ v' w', w'.ownsRow 0 e size v' (n + m) (xs ++ news) → w.grownBy w' v.ownBlock → (v'.ownBlock = v.ownBlock ∨ v'.ownBlock = some w.heap.size) → wpList P ops Q rest (a.put o.dst v') w') : wpList P ops Q (o :: rest) a w :=
  wpList_plain hgd fun _ hK => wp_append_src s x ho ht hi hz hsize hby hzs hsz v n xs hs hown A m c news hx hsrc h1 h63 hbytes fun v' w' h2 h3 h4 => hK _ _ (h v' w' h2 h3 h4)
theorem step_append_src {ops : Array Oper} {o : Oper} {a : Act} {K : Act → World → Prop} {Q : Exit → Act → World → Prop} {E : Prop} (hgd : o.guard = none) (s x : Operand)
    (ho : o.op = .call { callee := .builtin .append, args := #[s, x], argTypes := #[t, t] })
    (ht : P.underlying t = some (.slice e)) (hi : P.info? e = some i) (hz : i.zero = some z) (hsize : i.size = size) (hby : i.bytes = bytes) (hzs : z.cells.size = size) (hsz : 0 < size)
    (v : Value) (n : Nat) (xs : List Value) (hs : a.eval s = v) (hown : w.ownsRow 0 e size v n xs) (A : Option Addr) (m c : Nat) (news : List Value) (hx : a.eval x = .slice A m c) (hsrc : Src w A m size news) (h1 : ∀ u ∈ news, u.oneCell' = true)
    (h63 : n + m ≤ maxLen) (hbytes : (n + m) * bytes ≤ 140737488355328)
    (h : ∀ v' w', w'.ownsRow 0 e size v' (n + m) (xs ++ news) → w.grownBy w' v.ownBlock → (v'.ownBlock = v.ownBlock ∨ v'.ownBlock = some w.heap.size) → K (a.put o.dst v') w') :
    if Region.wanted o (yielded ops a.tmps) = true then Oper.wp P o a w K Q else E := by
  have hw : Region.wanted o (yielded ops a.tmps) = true := by simp [Region.wanted, hgd]
  rw [if_pos hw]
  exact wp_append_src s x ho ht hi hz hsize hby hzs hsz v n xs hs hown A m c news hx hsrc h1 h63 hbytes h
end

theorem add_none (b off j : Nat) : (⟨b, off, none⟩ : Addr).add j = ⟨b, off + j, none⟩ := by unfold Addr.add; split <;> simp_all
theorem Src.one {w : World} {b : Nat} {x : Value} (h : w.cell? ⟨b, 0, none⟩ = some x) : Src w (some ⟨b, 0, none⟩) 1 1 [x] :=
  .inr ⟨_, rfl, rfl, fun j u hj => by
    match j, hj with
    | 0, hj => simp at hj; subst hj; rw [add_none]; exact h⟩
theorem Src.keep {w w' : World} {A : Option Addr} {m size : Nat} {news : List Value} (h : Src w A m size news) (hk : ∀ a, A = some a → ∀ o u, w.cell? (a.add o) = some u → w'.cell? (a.add o) = some u) : Src w' A m size news := by
  rcases h with h | ⟨ad, rfl, h1, h2⟩
  · exact .inl h
  · exact .inr ⟨ad, rfl, h1, fun j u hj => hk _ rfl j u (h2 j u hj)⟩
theorem Src.grow {w w' : World} {A : Option Addr} {m size : Nat} {news : List Value} (h : Src w A m size news) (hb : Below w.heap.size w w') : Src w' A m size news :=
  h.keep fun _ _ _ _ hc => (hb.cell (World.block_lt_of_cell? _ _ hc)).trans hc
/-- A row as a source. -/
theorem row_src {α : Type} {T : Ty α} {wr : Bool} {w : World} {v : Value} {xs : List α} {F : List Nat} (h : T.row wr w v xs F) : ∃ A c cs G, v = .slice A xs.length c ∧ T.all wr w cs xs G ∧ Src w A xs.length T.size cs ∧ (∀ b ∈ G, b ∈ F) := by
  obtain ⟨a, cap, cs, G, rfl, h1, h2, hall, ⟨rfl, rfl⟩ | ⟨hs, hne, b, off, rfl, rfl, hc⟩⟩ := h
  · obtain ⟨rfl, rfl⟩ := hall
    exact ⟨a, cap, [], [], rfl, ⟨rfl, rfl⟩, .inl ⟨rfl, rfl⟩, by simp⟩
  · refine ⟨_, cap, cs, G, rfl, hall, .inr ⟨_, rfl, Ty.all_len hall, fun j u hj => ?_⟩, fun x hx => List.mem_cons_of_mem _ hx⟩
    have hjl := (List.getElem?_eq_some_iff.1 hj).1
    rw [add_none, (hc j hjl).1, ← List.getElem?_eq_getElem hjl, hj]
theorem row_src_int {wr : Bool} {w : World} {v : Value} {xs : List Int} {F : List Nat} (h : Ty.int.row wr w v xs F) : ∃ A c, v = .slice A xs.length c ∧ Src w A xs.length 1 (xs.map (.int .i64)) := by
  obtain ⟨A, c, cs, G, rfl, hall, hs, _⟩ := row_src h
  obtain ⟨rfl, _, _⟩ := Ty.all_int_inv hall
  exact ⟨A, c, rfl, hs⟩

/-- Where a slice from k on lies. -/
def cutA (A : Option Addr) (cap k size : Nat) : Option Addr := if cap = k then A else A.map (·.add (k * size))
section
variable {P : Program} {T e : TypeId} {i : TypeInfo} {size : Nat} {ρ : Operand → Value} {o : Oper} {x y : Operand} {A : Option Addr} {len cap k : Nat} {w : World}
theorem exec_slice_to (ho : o.op = .slice T x none (some y) none) (hx : ρ x = .slice A len cap) (hy : ρ y = .int .i64 k) (hT : P.underlying T = some (.slice e)) (hi : P.info? e = some i) (hk : k ≤ cap) :
    (execOp ρ o).run P w = .ok (.value (.slice A k cap)) w := by
  have hb : (Instr.sliceBounds true len cap none (some (.int .i64 k)) none).run P w = .ok (0, k, cap) w := by
    simp [Instr.sliceBounds, run_sliceBound (P := P) w .i64 (k : Int) cap .sliceAcap (by omega) (by omega)]
  have hA : (if cap = 0 then A else A.map (·.add 0)) = A := by
    split
    · rfl
    · cases A <;> simp [Addr.add]
  unfold execOp
  simp [ho, hx, hy, Instr.sliceAt, run_underlying hT, Instr.slice, hb, sizeOf, typeInfo, hi, hA]
theorem exec_slice_from (ho : o.op = .slice T x (some y) none none) (hx : ρ x = .slice A len cap) (hy : ρ y = .int .i64 k) (hT : P.underlying T = some (.slice e)) (hi : P.info? e = some i) (hs : i.size = size) (hk : k ≤ len) :
    (execOp ρ o).run P w = .ok (.value (.slice (cutA A cap k size) (len - k) (cap - k))) w := by
  have hb : (Instr.sliceBounds true len cap (some (.int .i64 k)) none none).run P w = .ok (k, len, cap) w := by
    simp [Instr.sliceBounds, run_sliceBound (P := P) w .i64 (k : Int) len .sliceB (by omega) (by omega)]
  subst hs
  unfold execOp cutA
  simp [ho, hx, hy, Instr.sliceAt, run_underlying hT, Instr.slice, hb, sizeOf, typeInfo, hi]
end
theorem Src.to {w : World} {A : Option Addr} {m size k : Nat} {news : List Value} (h : Src w A m size news) (hk : k ≤ m) : Src w A k size (news.take (k * size)) := by
  rcases h with ⟨rfl, rfl⟩ | ⟨ad, rfl, h1, h2⟩
  · exact .inl ⟨by omega, by simp⟩
  · refine .inr ⟨ad, rfl, ?_, fun j u hj => ?_⟩
    · rw [List.length_take, h1]
      have := Nat.mul_le_mul_right size hk
      omega
    · rw [List.getElem?_take] at hj
      split at hj
      · exact h2 j u hj
      · cases hj
theorem Src.from {w : World} {b off cap : Nat} {m size k : Nat} {news : List Value} (h : Src w (some ⟨b, off, none⟩) m size news) (hk : k ≤ m) (hm : m ≤ cap) : Src w (cutA (some ⟨b, off, none⟩) cap k size) (m - k) size (news.drop (k * size)) := by
  rcases h with ⟨rfl, rfl⟩ | ⟨ad, e, h1, h2⟩
  · exact .inl ⟨by omega, by simp⟩
  · cases e
    unfold cutA
    by_cases hc : cap = k
    · obtain rfl : m = k := by omega
      exact .inl ⟨by omega, by rw [List.drop_eq_nil_of_le (by omega)]⟩
    · rw [if_neg hc]
      refine .inr ⟨_, rfl, by rw [List.length_drop, h1, Nat.sub_mul], fun j u hj => ?_⟩
      rw [List.getElem?_drop] at hj
      have := h2 _ u hj
      rw [add_none] at this
      show w.cell? (((⟨b, off, none⟩ : Addr).add (k * size)).add j) = some u
      rw [add_none, add_none, Nat.add_assoc]
      exact this
theorem Src.from_nil {w : World} {m cap size k : Nat} {news : List Value} (h : Src w none m size news) (hk : k ≤ m) : Src w (cutA none cap k size) (m - k) size (news.drop (k * size)) := by
  rcases h with ⟨rfl, rfl⟩ | ⟨ad, e, _⟩
  · exact .inl ⟨by omega, by simp⟩
  · cases e
end Go.Proofs.YtpiimlmfcdjbbaaGreatDoor

/- Contracts: names with a smaller proof, in the reference. Printed by gen_small.py. -/
namespace Go.Proofs.YtpiimlmfcdjbbaaGreatDoor
open Go.RowKit

theorem infoStr : (Tryz.prog.info? 9).map (fun i => (i.zero, i.size, i.bytes)) = some (some (.string ByteArray.empty), 1, 16) := by kernel_rfl
abbrev stV (s : List UInt8) : Value := .string (ms s)
/-- A row of strings of its own. -/
abbrev Strs (v : Value) (ys : List (List UInt8)) : Asn := Own 9 1 v ys.length (ys.map stV)
theorem st_flat (ys : List (List UInt8)) : ys.map stV = ys.flatMap stEnc := by
  induction ys with
  | nil => rfl
  | cons y ys ih => rw [List.map_cons, List.flatMap_cons, ih]; rfl
theorem Sp.strs_row {w0 w : World} {ps : List Asn} {i : Nat} {v : Value} {ys : List (List UInt8)} (h : Sp w0 w ps) (hi : ps[i]? = some (Strs v ys)) (hg : ∀ y ∈ ys, stOk y) :
    ∃ F, stTy.row true w v ys F ∧ F.Nodup ∧ ∀ b ∈ F, w0.heap.size ≤ b := by
  obtain ⟨Fi, ⟨rfl, ho⟩, hF, -⟩ := h.upd hi
  obtain ⟨F, hr, hF2, _⟩ := Ty.row_of_owns (T := stTy) (xs := ys) (G := []) ho rfl (by decide) (flat_all.2 ⟨st_flat ys, hg, rfl⟩)
  refine ⟨F, hr, ?_, fun b hb => ?_⟩
  · rcases hF2 with rfl | ⟨g, _, _, _, rfl⟩ <;> simp
  · rcases hF2 with rfl | ⟨g, _, _, hg, rfl⟩
    · cases hb
    · refine hF b ?_
      rw [hg]; simpa using hb
theorem own_sliceJ {w : World} {B : Nat} {e : TypeId} {n : Nat} {v : Value} {cs : List Value} (h : w.ownsRow B e 1 v n cs) : ∃ A c, v = .slice A n c := by
  obtain ⟨a, c, rfl⟩ := owns_form h
  exact ⟨a, c, rfl⟩

/-- A list of names of its own, and whether there is one. -/
def SmPost (ok : Bool) (xs : List Rec) (one two : Int) (w : World) (e : Ending) (w' : World) : Prop :=
  ∃ v ys Fb, e = .returned (.tuple #[v, .bool ok]) ∧ stTy.row true w' v ys Fb ∧ Fb.Nodup ∧ (∀ b ∈ Fb, w.heap.size ≤ b) ∧ Below w.heap.size w w' ∧ ys = if ok then smallS xs one two else []
def okSm (xs : List Rec) (one two : Int) : Bool := bookB xs && inB one 1 4 && inB two 1 4
theorem l31Good_at {v : Value} {xs : List Rec} {F : List Nat} {w : World} {q : Bool} (hx : rcTy.row false w v xs F) (h : bookB xs = q) :
    Calls Tryz.prog 20 #[v] w fun e w' => e = .returned (.bool q) ∧ Below w.heap.size w w' := h ▸ l31Good_any v xs F w hx
theorem isBook_at {v : Value} {xs : List Rec} {F : List Nat} {w : World} {q : Bool} (hx : rcTy.row false w v xs F) (h : bookB xs = q) :
    Calls Tryz.prog 8 #[v] w fun e w' => e = .returned (.bool q) ∧ Below w.heap.size w w' := h ▸ isBook_any v xs F w hx

/-- What the reference has put together so far. -/
def smallI (xs : List Rec) (one two : Int) (i : Nat) : List (List UInt8) := (xs.take i).flatMap fun r => xs.flatMap fun q => if underB one two r q then [r.name] else []
def smallK (xs : List Rec) (one two : Int) (i k : Nat) : List (List UInt8) := smallI xs one two i ++ (xs.take k).flatMap fun q => if underB one two (xs.getD i ⟨[], 0, 0, 0⟩) q then [(xs.getD i ⟨[], 0, 0, 0⟩).name] else []
theorem smallK_zero {xs : List Rec} {one two : Int} {i : Nat} : smallK xs one two i 0 = smallI xs one two i := by simp [smallK]
theorem smallK_succ {xs : List Rec} {one two : Int} {i k : Nat} (hi : i < xs.length) (hk : k < xs.length) : smallK xs one two i (k + 1) = smallK xs one two i k ++ (if underB one two xs[i] xs[k] then [xs[i].name] else []) := by
  unfold smallK
  rw [List.take_succ_eq_append_getElem hk, List.flatMap_append, List.getD_eq_getElem?_getD, List.getElem?_eq_getElem hi]
  simp
theorem smallI_succ {xs : List Rec} {one two : Int} {i : Nat} (hi : i < xs.length) : smallK xs one two i xs.length = smallI xs one two (i + 1) := by
  unfold smallK smallI
  rw [List.take_length, List.take_succ_eq_append_getElem hi, List.flatMap_append, List.getD_eq_getElem?_getD, List.getElem?_eq_getElem hi]
  simp
theorem smallI_all {xs : List Rec} {one two : Int} : smallI xs one two xs.length = smallS xs one two := by unfold smallI smallS; rw [List.take_length]
theorem under_names {one two : Int} {r q : Rec} {s1 s2 s3 s4 : Bool} (h1 : decide (r.sys = one) = s1) (h2 : decide (q.sys = two) = s2) (h3 : (r.name == q.name) = s3) (h4 : decide (r.size < q.size) = s4) : underB one two r q = (s1 && s2 && s3 && s4) := by unfold underB; rw [h1, h2, h3, h4]
/-- While the pairs are looked at. -/
def SI (w : World) (v : Value) (ys : List (List UInt8)) (n : Nat) (wr : World) : Prop := Sp w wr [Strs v ys] ∧ ys.length ≤ n

/- left out: the seat has no spec.SmallerIn -/
end Go.Proofs.YtpiimlmfcdjbbaaGreatDoor

/- Contracts: a record looked for, in the program. -/
namespace Go.Proofs.YtpiimlmfcdjbbaaGreatDoor
open Go.RowKit

set_option maxHeartbeats 1000000 in
theorem recCl_any (r : Rec) (n : List UInt8) (s : Int) (bn bs : Nat) (w : World) (kn : w.cell? ⟨bn, 0, none⟩ = some (.string (ms n))) (ks : w.cell? ⟨bs, 0, none⟩ = some (.int .i64 s)) :
    Calls Tryz.prog 27 #[rcV r, .pointer (some ⟨bn, 0, none⟩), .pointer (some ⟨bs, 0, none⟩)] w fun e w' => e = .returned (.bool (isRec n s r)) ∧ Below w.heap.size w w' := by
  have hB := bal (bb w) (.cells #[.string (ms r.name), .int .i64 r.sys, .int .i64 r.size, .int .i64 r.extra] 30)
  have k0 := cell_alloc kn (.cells #[.string (ms r.name), .int .i64 r.sys, .int .i64 r.size, .int .i64 r.extra] 30)
  have k1 := cell_alloc ks (.cells #[.string (ms r.name), .int .i64 r.sys, .int .i64 r.size, .int .i64 r.extra] 30)
  cases h2 : (r.name == n)
  · have hR : Hid (isRec n s r = false) := by unfold Hid isRec; rw [h2]; rfl
    go_enter Tryz.func27, Tryz.ntmps27
    go_wp2_with fail
    go_ret
    exact ⟨ret_bool hR.out.symm, hB⟩
  · have hR : Hid (isRec n s r = decide (r.sys = s)) := by unfold Hid isRec; rw [h2]; rfl
    go_enter Tryz.func27, Tryz.ntmps27
    go_wp2_with fail
    go_ret
    exact ⟨ret_bool (by rw [hR.out]; rfl), hB⟩

/-- Where the record stands, or -1. -/
def FindR (xs : List Rec) (n : List UInt8) (s : Int) (z : Int) : Prop := (z = -1 ∧ recOf xs n s = none) ∨ ∃ k, ∃ h : k < xs.length, z = (k : Int) ∧ recOf xs n s = some xs[k]
theorem find_none {xs : List Rec} {p : Rec → Bool} {k : Nat} (h : (xs.take k).find? p = none) (hk : k < xs.length) (hp : p xs[k] = false) : (xs.take (k + 1)).find? p = none := by
  rw [List.take_succ_eq_append_getElem hk, List.find?_append, h]
  simp [hp]
theorem find_here {xs : List Rec} {p : Rec → Bool} {k : Nat} (h : (xs.take k).find? p = none) (hk : k < xs.length) (hp : p xs[k] = true) : xs.find? p = some xs[k] := by
  conv => lhs; rw [← List.take_append_drop k xs]
  rw [List.find?_append, h, List.drop_eq_getElem_cons hk, List.find?_cons, hp]
  rfl

set_option maxHeartbeats 2000000 in
theorem indexRec_any (v : Value) (xs : List Rec) (n : List UInt8) (s : Int) (bn bs : Nat) (F : List Nat) (w : World) (hx : rcTy.row false w v xs F) (kn : w.cell? ⟨bn, 0, none⟩ = some (.string (ms n))) (ks : w.cell? ⟨bs, 0, none⟩ = some (.int .i64 s)) :
    Calls Tryz.prog 26 #[v, .func (.func 27) #[] #[.pointer (some ⟨bn, 0, none⟩), .pointer (some ⟨bs, 0, none⟩)]] w fun e w' => ∃ z, e = .returned (.int .i64 z) ∧ FindR xs n s z ∧ Below w.heap.size w w' := by
  have eg : ∀ args w, (callFunc 27 args).run Tryz.prog w = .ok (.enter 27 args) w := enters_of Tryz.func27 (by kernel_rfl) rfl
  obtain ⟨a, c, rfl, hx1, hx2, hg, hx3⟩ := row_rc hx
  have hbn := World.block_lt_of_cell? _ _ kn
  have hbs := World.block_lt_of_cell? _ _ ks
  clear hx hg
  go_enter Tryz.func26, Tryz.ntmps26
  go_wp2_with fail
  go_loopw [8] (fun i wr => ∃ k : Nat, k ≤ xs.length ∧ i = .int .i64 k ∧ Hid ((xs.take k).find? (isRec n s) = none) ∧ Hid (Below w.heap.size w wr)) (fun i _ => xs.length - (intOf i).toNat)
  case atStart => exact ⟨0, Nat.zero_le _, rfl, rfl, bb _⟩
  case round =>
    obtain ⟨k, hk, rfl, HD, HB⟩ := hrel
    by_cases hlt : k < xs.length
    · rcases hx3 with ⟨rfl, rfl⟩ | ⟨hxn, b, off, rfl, rfl, hxc⟩
      · exact absurd hlt (by simp)
      obtain ⟨p0, p1, p2, p3⟩ := hxc k hlt
      have hp := HB.out.block b p0.lt
      have k0 := (p0.keep hp).1
      have k1 := (p1.keep hp).1
      have k2 := (p2.keep hp).1
      have k3 := (p3.keep hp).1
      have jn := ((bcell HB.out).1 bn 0 hbn).trans kn
      have js := ((bcell HB.out).1 bs 0 hbs).trans ks
      have hcall := Lib.hid (recCl_any xs[k] n s bn bs wr jn js)
      clear p0 p1 p2 p3 hp hxc jn js
      cases hq : isRec n s xs[k]
      · have HD2 := Lib.hid (find_none HD.out hlt hq)
        rw [hq] at hcall
        clear HD hq
        go_wp2_with fail
        refine hcall.out.mono ?_
        rintro e w1 ⟨rfl, hb1⟩
        have HB2 := Lib.hid (btr HB.out hb1)
        go_wp2_with fail
        go_roundw
        case rel => exact ⟨k + 1, by omega, by go_num, HD2, HB2⟩
        case measure => simp [intOf]; omega
      · have hR : Hid (FindR xs n s k) := .inr ⟨k, hlt, rfl, find_here HD.out hlt hq⟩
        rw [hq] at hcall
        clear HD hq
        go_wp2_with fail
        refine hcall.out.mono ?_
        rintro e w1 ⟨rfl, hb1⟩
        have hB := btr HB.out hb1
        go_wp2_with fail
        go_ret
        exact ⟨_, rfl, hR.out, hB⟩
    · obtain rfl : k = xs.length := by omega
      have hR : Hid (FindR xs n s (-1)) := .inl ⟨rfl, by have := HD.out; rwa [List.take_length] at this⟩
      clear HD
      go_wp2_with fail
      go_ret
      exact ⟨_, rfl, hR.out, HB.out⟩
end Go.Proofs.YtpiimlmfcdjbbaaGreatDoor

/- Contracts: the record of a name in a system, in the program. -/
namespace Go.Proofs.YtpiimlmfcdjbbaaGreatDoor
open Go.RowKit

/-- The record that is found, or an empty one. -/
def gotR (xs : List Rec) (n : List UInt8) (s : Int) : Rec := (recOf xs n s).getD rcZ
set_option maxRecDepth 100000 in
set_option maxHeartbeats 4000000 in
theorem recordOf_any (v : Value) (xs : List Rec) (n : List UInt8) (s : Int) (F : List Nat) (w : World) (hx : rcTy.row false w v xs F) (hb : bookB xs = true) :
    Calls Tryz.prog 10 #[v, .string (ms n), .int .i64 s] w fun e w' => e = .returned (.tuple #[rcV (gotR xs n s), .bool (recOf xs n s).isSome]) ∧ Below w.heap.size w w' := by
  obtain ⟨a, c, rfl, hx1, hx2, hg, hx3⟩ := row_rc hx
  have S0 := ((((Sp.start w).alloc_box #[.string (ms n)] 9).alloc_box #[.int .i64 s] 3).alloc_box #[.string ⟨#[]⟩, .int .i64 0, .int .i64 0, .int .i64 0] 30)
  simp only [World.size_alloc] at S0
  have kn := S0.cell (i := 2) rfl (o := 0) rfl
  have ks := S0.cell (i := 1) rfl (o := 0) rfl
  replace S0 := Lib.hid S0
  have hxr := Lib.hid hx
  replace hb := Lib.hid hb
  have hcall := Lib.hid (indexRec_any _ xs n s _ _ F _ (Ty.row_below hxr.out S0.out.below (Ty.row_lt hxr.out)) kn ks)
  clear hx kn ks
  go_enter Tryz.func10, Tryz.ntmps10
  go_wp2_with fail
  refine hcall.out.mono ?_
  rintro e w1 ⟨z, rfl, hz, hb1⟩
  have S1 := Lib.hid (S0.out.grow hb1)
  clear S0 hcall hb1
  rcases hz with ⟨rfl, hn⟩ | ⟨k, hk, rfl, hn⟩
  · have hR : Hid (rcV (gotR xs n s) = .agg #[.string ⟨#[]⟩, .int .i64 0, .int .i64 0, .int .i64 0] ∧ (recOf xs n s).isSome = false) := by unfold Hid gotR; rw [hn]; exact ⟨rfl, rfl⟩
    clear hn
    go_wp2_with fail
    refine (isBook_at (Ty.row_below hxr.out S1.out.below (Ty.row_lt hxr.out)) hb.out).mono ?_
    rintro e w2 ⟨rfl, hb2⟩
    have S2 := S1.out.grow hb2
    have z0 := S2.cell (i := 0) rfl (o := 0) rfl
    have z1 := S2.cell (i := 0) rfl (o := 1) rfl
    have z2 := S2.cell (i := 0) rfl (o := 2) rfl
    have z3 := S2.cell (i := 0) rfl (o := 3) rfl
    have y0 := S2.frozen (i := 0) rfl 0
    have y1 := S2.frozen (i := 0) rfl 1
    have y2 := S2.frozen (i := 0) rfl 2
    have y3 := S2.frozen (i := 0) rfl 3
    have S3 := ((((S2.store (i := 0) rfl 0 (.string ⟨#[]⟩)).store (i := 0) rfl 1 (.int .i64 0)).store (i := 0) rfl 2 (.int .i64 0)).store (i := 0) rfl 3 (.int .i64 0))
    replace S3 := Lib.hid S3
    clear S1 S2 hb2
    go_wp2_with fail
    have m0 := S3.out.cell (i := 0) rfl (o := 0) rfl
    have m1 := S3.out.cell (i := 0) rfl (o := 1) rfl
    have m2 := S3.out.cell (i := 0) rfl (o := 2) rfl
    have m3 := S3.out.cell (i := 0) rfl (o := 3) rfl
    clear z0 z1 z2 z3 y0 y1 y2 y3
    generalize World.setCell (World.setCell (World.setCell (World.setCell w2 _ _) _ _) _ _) _ _ = W at *
    exact bodyPost_ret (v := .tuple #[.agg #[.string ⟨#[]⟩, .int .i64 0, .int .i64 0, .int .i64 0], .bool false]) (by simp [results, Tryz.results10, go_sem, m0, m1, m2, m3]) rfl ⟨by rw [hR.out.1, hR.out.2], S3.out.below⟩
  · have hR : Hid (rcV (gotR xs n s) = rcV xs[k] ∧ (recOf xs n s).isSome = true) := by unfold Hid gotR; rw [hn]; exact ⟨rfl, rfl⟩
    clear hn
    rcases hx3 with ⟨rfl, rfl⟩ | ⟨hxn, b, off, rfl, rfl, hxc⟩
    · exact absurd hk (by simp)
    obtain ⟨p0, p1, p2, p3⟩ := hxc k hk
    have hkI : (k : Int) < (xs.length : Int) := by omega
    clear hxc
    go_wp2_with fail
    refine (isBook_at (Ty.row_below hxr.out S1.out.below (Ty.row_lt hxr.out)) hb.out).mono ?_
    rintro e w2 ⟨rfl, hb2⟩
    have S2 := S1.out.grow hb2
    have hp := S2.below.block b p0.lt
    have k0 := (p0.keep hp).1
    have k1 := (p1.keep hp).1
    have k2 := (p2.keep hp).1
    have k3 := (p3.keep hp).1
    have z0 := S2.cell (i := 0) rfl (o := 0) rfl
    have z1 := S2.cell (i := 0) rfl (o := 1) rfl
    have z2 := S2.cell (i := 0) rfl (o := 2) rfl
    have z3 := S2.cell (i := 0) rfl (o := 3) rfl
    have y0 := S2.frozen (i := 0) rfl 0
    have y1 := S2.frozen (i := 0) rfl 1
    have y2 := S2.frozen (i := 0) rfl 2
    have y3 := S2.frozen (i := 0) rfl 3
    generalize xs[k] = r at *
    have S3 := ((((S2.store (i := 0) rfl 0 (.string (ms r.name))).store (i := 0) rfl 1 (.int .i64 r.sys)).store (i := 0) rfl 2 (.int .i64 r.size)).store (i := 0) rfl 3 (.int .i64 r.extra))
    replace S3 := Lib.hid S3
    clear S1 S2 hb2 p0 p1 p2 p3 hp
    go_wp2_with fail
    have m0 := S3.out.cell (i := 0) rfl (o := 0) rfl
    have m1 := S3.out.cell (i := 0) rfl (o := 1) rfl
    have m2 := S3.out.cell (i := 0) rfl (o := 2) rfl
    have m3 := S3.out.cell (i := 0) rfl (o := 3) rfl
    clear z0 z1 z2 z3 y0 y1 y2 y3 k0 k1 k2 k3
    exact bodyPost_ret (v := .tuple #[rcV r, .bool true]) (by simp [results, Tryz.results10, go_sem, m0, m1, m2, m3]) rfl ⟨by rw [hR.out.1, hR.out.2], S3.out.below⟩
end Go.Proofs.YtpiimlmfcdjbbaaGreatDoor

/- Contract: the system with the smallest record of a name, in the program. -/
namespace Go.Proofs.YtpiimlmfcdjbbaaGreatDoor
open Go.RowKit

/-- The smallest record of a name among the first ones. -/
def bestStep (n : List UInt8) (b r : Rec) : Rec := if r.name == n && (decide (b.sys = 0) || decide (r.size < b.size)) then r else b
def bestR (xs : List Rec) (n : List UInt8) : Rec := xs.foldl (bestStep n) ⟨[], 0, 0, 0⟩
theorem bestR_succ {xs : List Rec} {n : List UInt8} {k : Nat} (hk : k < xs.length) : bestR (xs.take (k + 1)) n = bestStep n (bestR (xs.take k) n) xs[k] := by
  unfold bestR
  rw [List.take_succ_eq_append_getElem hk, List.foldl_append]; rfl
theorem best_in {n : List UInt8} : ∀ (xs : List Rec) (b : Rec), (∀ r ∈ xs, r.sys ≠ 0) → (xs.foldl (bestStep n) b = b ∧ (b.sys = 0 → ∀ r ∈ xs, r.name ≠ n)) ∨ (xs.foldl (bestStep n) b ∈ xs ∧ (xs.foldl (bestStep n) b).name = n)
  | [], b, _ => .inl ⟨rfl, fun _ => by simp⟩
  | r :: xs, b, h => by
    show ((xs.foldl (bestStep n) (bestStep n b r) = b) ∧ _) ∨ (xs.foldl (bestStep n) (bestStep n b r) ∈ _ ∧ (xs.foldl (bestStep n) (bestStep n b r)).name = n)
    have ih := best_in (n := n) xs (bestStep n b r) fun q hq => h q (by simp [hq])
    by_cases e : (r.name == n && (decide (b.sys = 0) || decide (r.size < b.size))) = true
    · have hs : bestStep n b r = r := by unfold bestStep; rw [if_pos e]
      rw [hs] at ih ⊢
      simp only [Bool.and_eq_true, beq_iff_eq] at e
      rcases ih with ⟨h1, -⟩ | ⟨h1, h2⟩
      · rw [h1]; exact .inr ⟨by simp, e.1⟩
      · exact .inr ⟨by simp [h1], h2⟩
    · have hs : bestStep n b r = b := by unfold bestStep; rw [if_neg e]
      rw [hs] at ih ⊢
      rcases ih with ⟨h1, h2⟩ | ⟨h1, h2⟩
      · refine .inl ⟨h1, fun hb q hq => ?_⟩
        rcases List.mem_cons.1 hq with rfl | hq
        · intro hn
          simp [hn, hb] at e
        · exact h2 hb q hq
      · exact .inr ⟨by simp [h1], h2⟩
theorem bestR_some {xs : List Rec} {n : List UInt8} (h : ∀ r ∈ xs, recB r = true) (hn : ∃ r ∈ xs, r.name = n) : bestR xs n ∈ xs ∧ (bestR xs n).name = n := by
  rcases best_in (n := n) xs ⟨[], 0, 0, 0⟩ (fun r hr e => by
    have := h r hr
    simp only [recB, Bool.and_eq_true] at this
    have h2 := this.1.1.2
    rw [inB_true] at h2
    omega) with ⟨-, h2⟩ | h2
  · obtain ⟨r, hr, e⟩ := hn
    exact absurd e (h2 rfl r hr)
  · exact h2

set_option maxRecDepth 100000 in
set_option maxHeartbeats 8000000 in
theorem smallestSystem_any (v : Value) (xs : List Rec) (n : List UInt8) (F : List Nat) (w : World) (hx : rcTy.row false w v xs F) (hb : bookB xs = true) :
    Calls Tryz.prog 16 #[v, .string (ms n)] w fun e w' => e = .returned (.tuple #[.int .i64 (bestR xs n).sys, .bool (decide (0 < (bestR xs n).sys))]) ∧ Below w.heap.size w w' := by
  obtain ⟨a, c, rfl, hx1, hx2, hg, hx3⟩ := row_rc hx
  go_enter Tryz.func16, Tryz.ntmps16
  go_wp2_with (go_at_call 8; refine (isBook_at hx hb).mono ?_; rintro e w1 ⟨rfl, hb1⟩; have S0 := Lib.hid ((Sp.of_below hb1).alloc_box #[.string ⟨#[]⟩, .int .i64 0, .int .i64 0, .int .i64 0] 30); clear hb1)
  clear hx hg hb
  obtain ⟨B, hB⟩ : ∃ B, w1.heap.size = B := ⟨_, rfl⟩
  rw [hB] at S0 ⊢
  go_loopw [15] (fun vi wr => ∃ k : Nat, k ≤ xs.length ∧ vi = .int .i64 k ∧ Hid (Sp w wr [Box B 30 #[.string (ms (bestR (xs.take k) n).name), .int .i64 (bestR (xs.take k) n).sys, .int .i64 (bestR (xs.take k) n).size, .int .i64 (bestR (xs.take k) n).extra]])) (fun vi _ => xs.length - (intOf vi).toNat)
  case atStart => exact ⟨0, Nat.zero_le _, rfl, S0⟩
  case round =>
    obtain ⟨k, hk, rfl, HS⟩ := hrel
    clear S0
    by_cases hlt : k < xs.length
    · rcases hx3 with ⟨rfl, rfl⟩ | ⟨hxn, b, off, rfl, rfl, hxc⟩
      · exact absurd hlt (by simp)
      obtain ⟨p0, p1, p2, p3⟩ := hxc k hlt
      have hp := HS.out.below.block b p0.lt
      have k0 := (p0.keep hp).1
      have k1 := (p1.keep hp).1
      have k2 := (p2.keep hp).1
      have k3 := (p3.keep hp).1
      have hs := bestR_succ (n := n) hlt
      generalize bestR (xs.take k) n = q at *
      generalize xs[k] = r at *
      obtain ⟨rn, rs, rz, re⟩ := r
      obtain ⟨qn, qs, qz, qe⟩ := q
      dsimp only at *
      have S1 := HS.out.alloc_box #[.string (ms rn), .int .i64 rs, .int .i64 rz, .int .i64 re] 30
      have d0 := S1.cell (i := 1) rfl (o := 0) rfl
      have d1 := S1.cell (i := 1) rfl (o := 1) rfl
      have d2 := S1.cell (i := 1) rfl (o := 2) rfl
      have d3 := S1.cell (i := 1) rfl (o := 3) rfl
      have y0 := S1.frozen (i := 1) rfl 0
      have y1 := S1.frozen (i := 1) rfl 1
      have y2 := S1.frozen (i := 1) rfl 2
      have y3 := S1.frozen (i := 1) rfl 3
      have S2 := Lib.hid S1.tail
      have S3 := Lib.hid (((((S1.store (i := 1) rfl 0 (.string (ms rn))).store (i := 1) rfl 1 (.int .i64 rs)).store (i := 1) rfl 2 (.int .i64 rz)).store (i := 1) rfl 3 (.int .i64 re)).tail)
      clear p0 p1 p2 p3 hp hxc HS S1
      cases hn : rn == n
      · replace hs := Lib.hid (hs.trans (if_neg (by simp [hn])))
        clear S3
        go_wp2_with fail
        go_roundw
        case rel => exact ⟨k + 1, by omega, by go_num, by rw [hs.out]; exact S2.out⟩
        case measure => simp [intOf]; omega
      by_cases h0 : qs = 0
      · replace hs := Lib.hid (hs.trans (if_pos (by simp [hn, h0])))
        have h0' : (qs == 0) = true := by rw [beq_iff_eq]; exact h0
        subst h0
        clear S2
        go_wp2_with fail
        go_roundw
        case rel => exact ⟨k + 1, by omega, by go_num, by rw [hs.out]; exact S3.out⟩
        case measure => simp [intOf]; omega
      have h0' : (qs == 0) = false := by rw [beq_eq_false_iff_ne]; exact h0
      by_cases hz : rz < qz
      · replace hs := Lib.hid (hs.trans (if_pos (by simp [hn, hz])))
        replace h0 := Lib.hid h0
        clear S2
        go_wp2_with fail
        go_roundw
        case rel => exact ⟨k + 1, by omega, by go_num, by rw [hs.out]; exact S3.out⟩
        case measure => simp [intOf]; omega
      · replace hs := Lib.hid (hs.trans (if_neg (by simp [h0, hz])))
        replace h0 := Lib.hid h0
        clear S3
        go_wp2_with fail
        go_roundw
        case rel => exact ⟨k + 1, by omega, by go_num, by rw [hs.out]; exact S2.out⟩
        case measure => simp [intOf]; omega
    · obtain rfl : k = xs.length := by omega
      rw [List.take_length] at HS
      have d1 := HS.out.cell (i := 0) rfl (o := 1) rfl
      have hB2 := Lib.hid HS.out.below
      obtain ⟨q, hq⟩ : ∃ q, bestR xs n = q := ⟨_, rfl⟩
      rw [hq] at d1
      replace hq := Lib.hid hq
      clear HS hB
      replace d1 := cell_regrown d1
      go_wp2_with fail
      refine wp_region_quiet_below (by kernel_rfl) (by kernel_rfl) ?_
      repeat (any_goals (first | go_big_quiet_step (fail)))
      refine wpQuiet_nil ?_
      rintro w5 ⟨p, rfl⟩
      have hB3 := btr hB2.out (below_regrown _ p.d p.os)
      go_wp2_with fail
      go_ret2
      exact ⟨by rw [hq.out]; rfl, hB3⟩
end Go.Proofs.YtpiimlmfcdjbbaaGreatDoor

/- Contracts: which names go, in the program. -/
namespace Go.Proofs.YtpiimlmfcdjbbaaGreatDoor
open Go.RowKit

/-- The variables that the closure has captured. -/
structure Caps (w : World) (b1 b2 b3 : Nat) (v : Value) (xs : List Rec) (one two : Int) : Prop where
  book : w.cell? ⟨b1, 0, none⟩ = some v
  one_ : w.cell? ⟨b2, 0, none⟩ = some (.int .i64 one)
  two_ : w.cell? ⟨b3, 0, none⟩ = some (.int .i64 two)
  row : ∃ F, rcTy.row false w v xs F
  ok : bookB xs = true
theorem Caps.grow {w w' : World} {b1 b2 b3 : Nat} {v : Value} {xs : List Rec} {one two : Int} (h : Caps w b1 b2 b3 v xs one two) (hb : Below w.heap.size w w') : Caps w' b1 b2 b3 v xs one two :=
  ⟨((bcell hb).1 b1 0 (World.block_lt_of_cell? _ _ h.book)).trans h.book, ((bcell hb).1 b2 0 (World.block_lt_of_cell? _ _ h.one_)).trans h.one_, ((bcell hb).1 b3 0 (World.block_lt_of_cell? _ _ h.two_)).trans h.two_, h.row.imp fun _ hr => Ty.row_grow hr hb, h.ok⟩
theorem goes_eq (xs : List Rec) (one two : Int) (n : List UInt8) : goesB xs one two n = (!(recOf xs n one).isSome || !(recOf xs n two).isSome || decide ((gotR xs n two).size ≤ (gotR xs n one).size)) := by
  unfold goesB gotR
  cases recOf xs n one <;> cases recOf xs n two <;> simp

/- left out: the seat has no impl.SmallerIn$1 -/

/-- The first name that goes, or -1. -/
def FirstP (ns : List (List UInt8)) (p : List UInt8 → Bool) (z : Int) : Prop := (z = -1 ∧ ∀ x ∈ ns, p x = false) ∨ ∃ k, ∃ h : k < ns.length, z = (k : Int) ∧ p ns[k] = true ∧ ∀ x ∈ ns.take k, p x = false

/- left out: the seat has no slices.IndexFunc[[]string,string] -/
end Go.Proofs.YtpiimlmfcdjbbaaGreatDoor

/- Contracts: the names of a book, in the program. -/
namespace Go.Proofs.YtpiimlmfcdjbbaaGreatDoor
open Go.RowKit

theorem bang {l : List (List UInt8)} {j : Nat} (h : j < l.length) : l.toArray[j]! = l[j] := by rw [getElem!_pos l.toArray j (by simpa using h)]; simp
theorem compact_mem {l : List (List UInt8)} {x : List UInt8} : x ∈ Lib.compact l ↔ x ∈ l := by
  unfold Lib.compact Lib.compactUpTo
  rw [List.mem_map]
  constructor
  · rintro ⟨j, hj, rfl⟩
    have hjl := List.mem_range.1 (List.mem_filter.1 hj).1
    rw [bang hjl]
    exact List.getElem_mem hjl
  · intro hx
    obtain ⟨j, hj, rfl⟩ := List.getElem_of_mem hx
    have key : ∀ j (hj : j < l.length), ∃ i, i ∈ (List.range l.length).filter (Lib.keeps l.toArray) ∧ l.toArray[i]! = l[j] := by
      intro j
      induction j with
      | zero => exact fun hj => ⟨0, List.mem_filter.2 ⟨List.mem_range.2 hj, by simp [Lib.keeps]⟩, bang hj⟩
      | succ j ih =>
        intro hj
        by_cases e : l[j + 1] = l[j]
        · obtain ⟨i, hi, h2⟩ := ih (by omega)
          exact ⟨i, hi, by rw [h2, e]⟩
        · refine ⟨j + 1, List.mem_filter.2 ⟨List.mem_range.2 hj, ?_⟩, bang hj⟩
          refine Lib.keeps_pos ?_
          rw [Nat.add_sub_cancel, bang hj, bang (by omega)]
          exact e
    exact key j hj
theorem compact_asc {l : List (List UInt8)} (h : l.Pairwise fun a b => LessN a b ∨ a = b) : (Lib.compact l).Pairwise LessN := by
  unfold Lib.compact Lib.compactUpTo
  rw [List.pairwise_map]
  have hr : ((List.range l.length).filter (Lib.keeps l.toArray)).Pairwise (· < ·) := List.Pairwise.filter _ List.pairwise_lt_range
  refine hr.imp_of_mem fun {i j} hi hj hij => ?_
  have hil := List.mem_range.1 (List.mem_filter.1 hi).1
  have hjl := List.mem_range.1 (List.mem_filter.1 hj).1
  have hk := (List.mem_filter.1 hj).2
  rw [bang hil, bang hjl]
  have hget := List.pairwise_iff_getElem.1 h
  have hne : l[j] ≠ l[j - 1]'(by omega) := fun e => by
    have : Lib.keeps l.toArray j = false := Lib.keeps_neg (by omega) (by rw [bang hjl, bang (by omega)]; exact e)
    rw [this] at hk; cases hk
  have h1 : LessN (l[j - 1]'(by omega)) l[j] := by
    rcases hget (j - 1) j (by omega) hjl (by omega) with h | h
    · exact h
    · exact absurd h.symm hne
  by_cases e : i = j - 1
  · subst e; exact h1
  · rcases hget i (j - 1) hil (by omega) (by omega) with h | h
    · exact less_trans h h1
    · rw [h]; exact h1
theorem names_weak {xs : List Rec} (h : bookB xs = true) : (xs.map Rec.name).Pairwise fun a b => LessN a b ∨ a = b := by
  rw [List.pairwise_map]
  refine (book_pair h).imp fun {a b} hab => ?_
  simp only [beforeB, Bool.or_eq_true, Bool.and_eq_true, beq_iff_eq] at hab
  rcases hab with h | ⟨h, _⟩
  · exact .inl h
  · exact .inr h

theorem own_view {w : World} {v : Value} {B : Nat} {e : TypeId} {n : Nat} {cs : List Value} (h : w.ownsRow B e 1 v n cs) : cs.length = n ∧ ((v = .slice none 0 0 ∧ n = 0 ∧ cs = []) ∨ ∃ g c, v = .slice (some ⟨g, 0, none⟩) n c ∧ n ≤ c ∧ c ≤ 9223372036854775807 ∧ ∀ j u, cs[j]? = some u → w.cell? ⟨g, j, none⟩ = some u) := by
  obtain ⟨hl, ⟨rfl, rfl⟩ | ⟨g, cap, cur, rfl, hg, hh, hn, hm, hcs, ht⟩⟩ := h
  · rw [Nat.zero_mul] at hl
    exact ⟨hl, .inl ⟨rfl, rfl, List.length_eq_zero_iff.1 hl⟩⟩
  · rw [Nat.mul_one] at hl
    refine ⟨hl, .inr ⟨g, cap, rfl, hn, by unfold maxLen at hm; omega, fun j u hj => ?_⟩⟩
    have hlt := (List.getElem?_eq_some_iff.1 hj).1
    rw [hown_cell hh ht (by omega)]; exact hj
theorem own_ptr {w : World} {B : Nat} {e : TypeId} {n c : Nat} {A : Option Addr} {cs : List Value} (h : w.ownsRow B e 1 (.slice A n c) n cs) (hn : 0 < n) : ∃ g, A = some ⟨g, 0, none⟩ := by
  obtain ⟨_, ⟨e, h0, _⟩ | ⟨g', c', e, _⟩⟩ := own_view h
  · omega
  · simp only [Value.slice.injEq] at e
    exact ⟨g', e.1⟩
/-- An own row as a block. -/
theorem Sp.own_box {w0 w : World} {ps : List Asn} {i : Nat} {e : TypeId} {g n c : Nat} {cs : List Value} (h : Sp w0 w ps) (hi : ps[i]? = some (Own e 1 (.slice (some ⟨g, 0, none⟩) n c) n cs)) :
    ∃ cur, Sp w0 w (ps.set i (Box g e cur)) ∧ cur.size = c ∧ cur.toList.take n = cs ∧ n ≤ c ∧ c ≤ 9223372036854775807 := by
  obtain ⟨Fi, ⟨rfl, ho⟩, hF, hall⟩ := h.upd hi
  obtain ⟨hl, ⟨he, -⟩ | ⟨g', cap, cur, he, hg, hh, hn, hm, hcs, ht⟩⟩ := ho
  · cases he
  · simp only [Value.slice.injEq, Option.some.injEq, Addr.mk.injEq] at he
    obtain ⟨⟨rfl, _⟩, _, rfl⟩ := he
    rw [Nat.mul_one] at hcs ht
    exact ⟨cur, hall w (Box g e cur) [g] (Chg.refl _ _) ⟨rfl, hh⟩ (fun b hb => .inl (by rw [List.mem_singleton] at hb; subst hb; simp [Value.ownBlock])), hcs, ht, hn, hm⟩
/-- Names in a block. -/
def NamesIn (cur : Array Value) (ns : List (List UInt8)) : Prop := ∀ j (hj : j < ns.length), cur[j]? = some (stV ns[j])
def NamesPost (xs : List Rec) (w : World) (e : Ending) (w' : World) : Prop :=
  ∃ a cap ns, e = .returned (.tuple #[.slice a ns.length cap, .bool true]) ∧ ns.Pairwise LessN ∧ (∀ n, n ∈ ns ↔ n ∈ xs.map Rec.name) ∧ ns.length ≤ 24 ∧ ns.length ≤ cap ∧ cap ≤ 9223372036854775807 ∧
    ((ns = [] ∧ Below w.heap.size w w') ∨ ∃ g cur, a = some ⟨g, 0, none⟩ ∧ Sp w w' [Box g 9 cur] ∧ cur.size = cap ∧ NamesIn cur ns)
theorem compact_len (l : List (List UInt8)) : (Lib.compact l).length ≤ l.length := by
  unfold Lib.compact Lib.compactUpTo
  rw [List.length_map]
  exact Nat.le_trans (List.length_filter_le _ _) (by simp)

/-- What Compact leaves in the block. -/
theorem compact_box {w w' : World} {w0 : World} {g q : Nat} {cur : Array Value} {l : List (List UInt8)} (h : Sp w0 w [Box g 9 cur]) (hs : l.length ≤ cur.size)
    (_ : NamesIn cur l) (e : w' = Sort.putRow encStr (Sort.ahead w q) g 0 (Lib.compact l ++ List.replicate (l.length - (Lib.compact l).length) []).toArray) :
    ∃ cur', Sp w0 w' [Box g 9 cur'] ∧ cur'.size = cur.size ∧ NamesIn cur' (Lib.compact l) := by
  subst e
  obtain ⟨Fi, ⟨rfl, hh⟩, hF, hall⟩ := h.upd (i := 0) rfl
  have hcl := compact_len l
  generalize hD : (Lib.compact l ++ List.replicate (l.length - (Lib.compact l).length) []).toArray = D
  have hDs : D.size = l.length := by rw [← hD]; simp; omega
  refine ⟨Sort.putCells encStr 0 D cur, ?_, by simp [Sort.putCells], fun j hj => ?_⟩
  · refine hall _ (Box g 9 (Sort.putCells encStr 0 D cur)) [g] ⟨rfl, rfl, rfl, by simp [Sort.ahead], fun k hk hn => ?_⟩ ⟨rfl, ?_⟩ (fun b hb => .inl hb)
    · have hne : ¬ g = k := fun e => hn (by simp [e])
      simp [Sort.putRow, Sort.mapBlock, Sort.ahead, Array.getElem?_modify, hne]
    · simp [Sort.putRow, Sort.mapBlock, Sort.ahead, Array.getElem?_modify, hh, Sort.onCells]
  · have hjl : j < l.length := by omega
    have hDj : D[j]! = (Lib.compact l)[j] := by
      rw [← hD, getElem!_pos _ j (by simp; omega)]
      simp [List.getElem_append_left hj]
    unfold Sort.putCells
    rw [Array.getElem?_mapIdx, Array.getElem?_eq_getElem (show j < cur.size by omega)]
    simp only [Option.map_some, Nat.zero_le, true_and, Nat.zero_add, Nat.sub_zero]
    rw [if_pos (by omega), hDj]
    rfl
end Go.Proofs.YtpiimlmfcdjbbaaGreatDoor

/- Contracts: the names of a book, in the program: the walk. -/
namespace Go.Proofs.YtpiimlmfcdjbbaaGreatDoor
open Go.RowKit

set_option maxRecDepth 100000 in
set_option maxHeartbeats 4000000 in
theorem namesOf_any (v : Value) (xs : List Rec) (F : List Nat) (w : World) (hx : rcTy.row false w v xs F) (hb : bookB xs = true) :
    Calls Tryz.prog 13 #[v] w (NamesPost xs w) := by
  obtain ⟨i0, hi, hz0, hz1, hz2⟩ := info_parts infoStr
  obtain ⟨a, c, rfl, hx1, hx2, hg, hx3⟩ := row_rc hx
  have h24 : xs.length ≤ 24 := by unfold bookB at hb; rw [Bool.and_eq_true, decide_eq_true_eq] at hb; exact hb.2
  have hxr := Lib.hid hx
  have hbk := Lib.hid hb
  clear hx hb
  go_enter Tryz.func13, Tryz.ntmps13
  go_wp2_with fail
  refine (isBook_at (Ty.row_below hxr.out (bb _) (Ty.row_lt hxr.out)) hbk.out).mono ?_
  rintro e w1 ⟨rfl, hb1⟩
  have S1 := Lib.hid ((Sp.of_below hb1).own_nil 9 1)
  clear hb1
  go_wp2_with fail
  go_loopw [4, 12] (fun vo vi wr => ∃ (k : Nat) (A : Option Addr) (cc : Nat) (ys : List (List UInt8)), k ≤ xs.length ∧ vi = .int .i64 k ∧ vo = .slice A ys.length cc ∧ Hid (ys = (xs.take k).map Rec.name) ∧ Hid (ys.length = k) ∧ Hid (Sp w wr [Strs (.slice A ys.length cc) ys])) (fun _ vi _ => xs.length - (intOf vi).toNat)
  case atStart => exact ⟨0, none, 0, [], Nat.zero_le _, rfl, rfl, rfl, rfl, S1⟩
  case round =>
    obtain ⟨k, A, cc, ys, hk, rfl, rfl, HY, hyl, HS⟩ := hrel
    clear S1
    by_cases hlt : k < xs.length
    · rcases hx3 with ⟨rfl, rfl⟩ | ⟨hxn, b, off, rfl, rfl, hxc⟩
      · exact absurd hlt (by simp)
      obtain ⟨p0, p1, p2, p3⟩ := hxc k hlt
      have hp := HS.out.below.block b p0.lt
      have k0 := (p0.keep hp).1
      have k1 := (p1.keep hp).1
      have k2 := (p2.keep hp).1
      have k3 := (p3.keep hp).1
      have hy24 : ys.length ≤ 24 := by have := hyl.out; omega
      have HY2 : Hid (ys ++ [xs[k].name] = (xs.take (k + 1)).map Rec.name) := by unfold Hid; rw [HY.out, List.take_succ_eq_append_getElem hlt, List.map_append]; rfl
      clear p0 p1 p2 p3 hp hxc HY
      generalize xs[k] = r at *
      have S2 := (HS.out.alloc_box #[.string (ms r.name), .int .i64 r.sys, .int .i64 r.size, .int .i64 r.extra] 30)
      have S3 := S2.alloc_box #[.string (ms r.name)] 9
      simp only [World.size_alloc] at S3
      have kB := S3.cell (i := 0) rfl (o := 0) rfl
      replace S3 := Lib.hid S3
      clear S2 HS
      go_wp2_with (at_builtin; refine wpList_append_src rfl _ _ rfl Tryz.underlying37 hi hz0 hz1 hz2 rfl (by decide) _ _ _ rfl (S3.out.own (i := 2) rfl) _ 1 1 [.string (ms r.name)] rfl (Src.one kB) (by simp [Value.oneCell']) ?c3 ?c4 ?_)
      case c3 => unfold maxLen; omega
      case c4 => omega
      intro vY wY hownY hgY hatY
      have S4 := (S3.out.own_push (i := 2) rfl (bb _) hownY hgY (by simpa using hatY)).tail.tail
      obtain ⟨aY, cY, rfl⟩ := owns_form hownY
      have HS2 : Hid (Sp w wY [Strs (.slice aY (ys ++ [r.name]).length cY) (ys ++ [r.name])]) := by
        have := S4
        rw [show ys.length + 1 = (ys ++ [r.name]).length by simp, show ys.map stV ++ [.string (ms r.name)] = (ys ++ [r.name]).map stV by simp] at this
        exact this
      have hlen : ys.length + 1 = (ys ++ [r.name]).length := by simp
      obtain ⟨zs, hzs⟩ : ∃ z, ys ++ [r.name] = z := ⟨_, rfl⟩
      rw [hzs] at HS2 HY2 hlen
      rw [hlen]
      have hzl : zs.length = k + 1 := by have := hyl.out; omega
      replace hlen := Lib.hid hlen
      clear S3 S4 kB hownY hgY hatY hzs k0 k1 k2 k3 hyl
      replace hzl := Lib.hid hzl
      go_wp2_with fail
      go_roundw
      case rel => exact ⟨k + 1, aY, cY, zs, by omega, by go_num, rfl, HY2, hzl, HS2⟩
      case measure => simp [intOf]; omega
    · obtain rfl : k = xs.length := by omega
      have hys : ys = xs.map Rec.name := by have := HY.out; rwa [List.take_length] at this
      have hweak := names_weak hbk.out
      rw [← hys] at hweak
      have hA := Lib.hid (compact_asc hweak)
      have hM : Hid (∀ n, n ∈ Lib.compact ys ↔ n ∈ xs.map Rec.name) := fun n => by rw [compact_mem, hys]
      have hL := compact_len ys
      clear HY hweak hys
      have hy24 : ys.length ≤ 24 := by have := hyl.out; omega
      clear hyl hk hlt hx3
      obtain ⟨hcl, hcm⟩ : ys.length ≤ cc ∧ cc ≤ 9223372036854775807 := by
        obtain ⟨_, ⟨e, h1, _⟩ | ⟨g', c', e, h1, h2, _⟩⟩ := own_view (HS.out.own (i := 0) rfl)
        · simp only [Value.slice.injEq] at e
          omega
        · simp only [Value.slice.injEq] at e
          omega
      by_cases h0 : ys = []
      · subst h0
        have hB := HS.out.below
        have hcall := Lib.hid (Tryz.slices_Compact_string_empty A cc wr)
        have hNP : Hid (NamesPost xs w (.returned (.tuple #[.slice A 0 cc, .bool true])) wr) := ⟨A, cc, [], rfl, by simp, hM.out, by simp, by simp, hcm, .inl ⟨rfl, hB⟩⟩
        clear hM hA HS hL
        go_wp2_with fail
        refine hcall.out.mono ?_
        rintro e w2 ⟨rfl, rfl⟩
        go_wp2_with fail
        go_ret2
        exact hNP.out
      · have hpos : 0 < ys.length := List.length_pos_iff.2 h0
        obtain ⟨g, rfl⟩ := own_ptr (HS.out.own (i := 0) rfl) hpos
        obtain ⟨cur, S2, hcs, hct, hnc, hcm⟩ := HS.out.own_box (i := 0) rfl
        have hNI : NamesIn cur ys := fun j hj => by
          have : cur.toList[j]? = (ys.map stV)[j]? := by rw [← hct, List.getElem?_take, if_pos hj]
          rw [List.getElem?_map, List.getElem?_eq_getElem hj, Array.getElem?_toList] at this
          exact this
        have hH : Sort.Holds encStr wr g 0 ys.toArray := fun j hj => by
          have hj' : j < ys.length := by simpa using hj
          rw [Nat.zero_add, bang hj']
          exact ⟨S2.cell (i := 0) rfl (hNI j hj'), S2.frozen (i := 0) rfl j⟩
        have hcall := Lib.hid (Tryz.slices_Compact_string g 0 cc ys wr hH (by omega) hnc)
        have hbx := Lib.hid (fun w' q e => compact_box (w' := w') (q := q) S2 (by rw [hcs]; exact hnc) hNI e)
        clear HS hH hct S2 hNI
        go_wp2_with fail
        refine hcall.out.mono ?_
        rintro e w2 ⟨rfl, q, hw⟩
        obtain ⟨cur', S3, hs3, hN3⟩ := hbx.out w2 q hw
        have hNP : Hid (NamesPost xs w (.returned (.tuple #[.slice (some ⟨g, 0, none⟩) (Lib.compact ys).length cc, .bool true])) w2) := ⟨_, cc, _, rfl, hA.out, hM.out, by omega, by omega, hcm, .inr ⟨g, cur', rfl, S3, by rw [hs3, hcs], hN3⟩⟩
        clear hM hA hbx hcall S3 hN3 hw
        go_wp2_with fail
        go_ret2
        exact hNP.out
end Go.Proofs.YtpiimlmfcdjbbaaGreatDoor

/- Contracts: names left out, in the program. -/
namespace Go.Proofs.YtpiimlmfcdjbbaaGreatDoor
open Go.RowKit

/-- The memory while names are left out: the row's block, and what the closure has captured. -/
abbrev DParts (g b1 b2 b3 : Nat) (cur : Array Value) (v : Value) (one two : Int) : List Asn := [Box g 9 cur, Box b3 3 #[.int .i64 two], Box b2 3 #[.int .i64 one], Box b1 24 #[v]]
theorem caps_of {w0 w : World} {g b1 b2 b3 : Nat} {cur : Array Value} {v : Value} {xs : List Rec} {one two : Int} {F : List Nat} (S : Sp w0 w (DParts g b1 b2 b3 cur v one two)) (hr : rcTy.row false w0 v xs F) (hb : bookB xs = true) : Caps w b1 b2 b3 v xs one two :=
  ⟨S.cell (i := 3) rfl (o := 0) rfl, S.cell (i := 2) rfl (o := 0) rfl, S.cell (i := 1) rfl (o := 0) rfl, ⟨F, Ty.row_below hr S.below (Ty.row_lt hr)⟩, hb⟩
theorem Sp.setCells {w0 : World} {b : Nat} {t : TypeId} : ∀ (vs : List Value) (o : Nat) {w : World} {ps : List Asn} {i : Nat} {cs : Array Value}, Sp w0 w ps → ps[i]? = some (Box b t cs) →
    ∃ cs', Sp w0 (w.setCells b o vs) (ps.set i (Box b t cs')) ∧ cs'.size = cs.size ∧ ∀ q, q < o → cs'[q]? = cs[q]?
  | [], o, w, ps, i, cs, h, hi => ⟨cs, by
    have e : ps.set i (Box b t cs) = ps := by
      apply List.ext_getElem?
      intro j
      rw [List.getElem?_set]
      by_cases e : i = j
      · subst e
        rw [if_pos rfl, if_pos (List.getElem?_eq_some_iff.1 hi).1, hi]
      · rw [if_neg e]
    rw [e]; exact h, rfl, fun _ _ => rfl⟩
  | v :: r, o, w, ps, i, cs, h, hi => by
    have h1 := h.store hi o v
    have hil : i < ps.length := (List.getElem?_eq_some_iff.1 hi).1
    obtain ⟨cs', S, hs, hq⟩ := Sp.setCells r (o + 1) h1 (by rw [List.getElem?_set, if_pos rfl, if_pos hil])
    refine ⟨cs', by rw [List.set_set] at S; exact S, by rw [hs]; simp, fun q hlt => ?_⟩
    rw [hq q (by omega), Array.getElem?_setIfInBounds, if_neg (by omega)]
theorem run_slice_to {P : Program} {T e : TypeId} {i : TypeInfo} (hT : P.underlying T = some (.slice e)) (hi : P.info? e = some i) (A : Option Addr) (len cap k : Nat) (w : World) (hk : k ≤ cap) :
    (Instr.sliceAt T (.slice A len cap) none (some (.int .i64 k)) none).run P w = .ok (.slice A k cap) w := by
  have hb : (Instr.sliceBounds true len cap none (some (.int .i64 k)) none).run P w = .ok (0, k, cap) w := by
    simp [Instr.sliceBounds, run_sliceBound (P := P) w .i64 (k : Int) cap .sliceAcap (by omega) (by omega)]
  have hA : (if cap = 0 then A else A.map (·.add 0)) = A := by
    split
    · rfl
    · cases A <;> simp [Addr.add]
  simp [Instr.sliceAt, run_underlying hT, Instr.slice, hb, sizeOf, typeInfo, hi, hA]
theorem run_slice_from {P : Program} {T e : TypeId} {i : TypeInfo} (hT : P.underlying T = some (.slice e)) (hi : P.info? e = some i) (hs : i.size = 1) (g len cap k : Nat) (w : World) (hk : k ≤ len) (hc : k < cap) :
    (Instr.sliceAt T (.slice (some ⟨g, 0, none⟩) len cap) (some (.int .i64 k)) none none).run P w = .ok (.slice (some ⟨g, k, none⟩) (len - k) (cap - k)) w := by
  have hb : (Instr.sliceBounds true len cap (some (.int .i64 k)) none none).run P w = .ok (k, len, cap) w := by
    simp [Instr.sliceBounds, run_sliceBound (P := P) w .i64 (k : Int) len .sliceB (by omega) (by omega)]
  have hA : (if cap = k then (some ⟨g, 0, none⟩ : Option Addr) else (some ⟨g, 0, none⟩ : Option Addr).map (·.add (k * i.size))) = some ⟨g, k, none⟩ := by
    rw [if_neg (by omega), hs, Nat.mul_one]
    simp [Addr.add]
    exact fun h => h.symm
  simp [Instr.sliceAt, run_underlying hT, Instr.slice, hb, sizeOf, typeInfo, hi]
  first | exact hA | simpa using hA

/-- What stays of the first names. -/
def keptN (ns : List (List UInt8)) (p : List UInt8 → Bool) (j : Nat) : List (List UInt8) := (ns.take j).filter fun n => !p n
theorem kept_succ {ns : List (List UInt8)} {p : List UInt8 → Bool} {j : Nat} (h : j < ns.length) : keptN ns p (j + 1) = keptN ns p j ++ (if p ns[j] then [] else [ns[j]]) := by
  unfold keptN
  rw [List.take_succ_eq_append_getElem h, List.filter_append]
  cases hp : p ns[j] <;> simp [hp]
theorem kept_none {ns : List (List UInt8)} {p : List UInt8 → Bool} {k : Nat} (h : ∀ x ∈ ns.take k, p x = false) : keptN ns p k = ns.take k := by
  unfold keptN
  rw [List.filter_eq_self]
  intro x hx
  rw [h x hx]; rfl
theorem kept_all (ns : List (List UInt8)) (p : List UInt8 → Bool) : keptN ns p ns.length = ns.filter fun n => !p n := by unfold keptN; rw [List.take_length]
theorem kept_le (ns : List (List UInt8)) (p : List UInt8 → Bool) (j : Nat) : (keptN ns p j).length ≤ j := by
  unfold keptN
  refine Nat.le_trans (List.length_filter_le _ _) ?_
  rw [List.length_take]; omega
/-- While names are left out. -/
def DI (w0 : World) (g b1 b2 b3 : Nat) (v : Value) (one two : Int) (ns : List (List UInt8)) (p : List UInt8 → Bool) (cap i j : Nat) (wr : World) : Prop :=
  ∃ cur, cur.size = cap ∧ NamesIn cur (keptN ns p j) ∧ (keptN ns p j).length = i ∧ (∀ q (h : q < ns.length), j ≤ q → cur[q]? = some (stV ns[q])) ∧ Sp w0 wr (DParts g b1 b2 b3 cur v one two)

/- left out: the seat has no slices.DeleteFunc[[]string,string] -/
end Go.Proofs.YtpiimlmfcdjbbaaGreatDoor

/- Contracts: a record's place in a book, found by halving. -/
namespace Go.Proofs.YtpiimlmfcdjbbaaGreatDoor
open Go.RowKit

theorem cmpR_same (a b : Rec) : (cmpR a b = 0) ↔ sameR a b = true := by
  obtain ⟨h1, h2, h3⟩ := cmp_bytes a.name b.name
  unfold cmpR orN sameR
  rw [Bool.and_eq_true, beq_iff_eq, decide_eq_true_eq]
  by_cases e : Lib.compareBytes a.name b.name = 0
  · rw [if_pos e]
    have e2 := h2.1 e
    unfold Lib.compareInt
    constructor
    · intro h
      refine ⟨e2, ?_⟩
      by_cases hs : a.sys < b.sys
      · simp [hs] at h
      · by_cases hs2 : b.sys < a.sys
        · simp [hs, hs2] at h
        · omega
    · rintro ⟨_, hs⟩
      rw [hs]; simp
  · rw [if_neg e]
    constructor
    · intro h; exact absurd h e
    · rintro ⟨hn, _⟩; exact absurd (h2.2 hn) e

theorem book_le' {xs : List Rec} (h : bookB xs = true) : xs.length ≤ 24 := by
  unfold bookB at h
  rw [Bool.and_eq_true, decide_eq_true_eq] at h
  exact h.2
/-- Whether there is a record of the same name and system. -/
def hitR (xs : List Rec) (r : Rec) : Bool := match xs[posR xs r]? with
  | some q => sameR q r
  | none => false
/-- What is known while the place is looked for. -/
def Half (xs : List Rec) (r : Rec) (lo hi : Nat) : Prop := (∀ j (hj : j < xs.length), j < lo → beforeB xs[j] r = true) ∧ (∀ j (hj : j < xs.length), hi ≤ j → beforeB xs[j] r = false)
theorem Half.up {xs : List Rec} {r : Rec} {lo hi m : Nat} (h : Half xs r lo hi) (hb : bookB xs = true) (hm : m < xs.length) (hq : beforeB xs[m] r = true) : Half xs r (m + 1) hi :=
  ⟨fun _ _ hjm => before_down hb hm (by omega) hq, h.2⟩
theorem Half.down {xs : List Rec} {r : Rec} {lo hi m : Nat} (h : Half xs r lo hi) (hb : bookB xs = true) (hm : m < xs.length) (hq : beforeB xs[m] r = false) : Half xs r lo m :=
  ⟨h.1, fun j hj hmj => by
    cases e : beforeB xs[j] r
    · rfl
    · have := before_down hb hj hmj e
      rw [hq] at this
      cases this⟩
theorem Half.pos {xs : List Rec} {r : Rec} {k : Nat} (h : Half xs r k k) (hk : k ≤ xs.length) : posR xs r = k :=
  posR_eq hk (fun j hj hjk => h.1 j hj hjk) (fun hk => h.2 k hk (Nat.le_refl _))
theorem hitR_at {xs : List Rec} {r : Rec} {k : Nat} (hp : posR xs r = k) (hk : k < xs.length) : hitR xs r = sameR xs[k] r := by
  unfold hitR; rw [hp, List.getElem?_eq_getElem hk]
theorem hitR_end {xs : List Rec} {r : Rec} {k : Nat} (hp : posR xs r = k) (hk : k = xs.length) : hitR xs r = false := by
  unfold hitR; rw [hp, List.getElem?_eq_none (by omega)]
theorem cmpR_lt {a b : Rec} {q : Bool} (h : beforeB a b = q) : decide (cmpR a b < 0) = q := by
  have := cmpR_neg a b
  cases q
  · rw [decide_eq_false_iff_not]; have := this.2 h; omega
  · rw [decide_eq_true_eq]
    rcases Int.lt_or_le (cmpR a b) 0 with h1 | h1
    · exact h1
    · rw [this.1 h1] at h; cases h

set_option maxRecDepth 100000 in
set_option maxHeartbeats 4000000 in
theorem searchRec_any (v : Value) (xs : List Rec) (r : Rec) (F : List Nat) (w : World) (hx : rcTy.row false w v xs F) (hb : bookB xs = true) :
    Calls Tryz.prog 46 #[v, rcV r, .func (.func 25) #[] #[]] w fun e w' => e = .returned (.tuple #[.int .i64 (posR xs r : Nat), .bool (hitR xs r)]) ∧ Below w.heap.size w w' := by
  have eg : ∀ args w, (callFunc 25 args).run Tryz.prog w = .ok (.enter 25 args) w := enters_of Tryz.func25 (by kernel_rfl) rfl
  obtain ⟨a, c, rfl, hx1, hx2, hg, hx3⟩ := row_rc hx
  have h24 := book_le' hb
  have hcmp := Lib.hid (fun (q : Rec) W => compareRecords_any q r W)
  replace hb := Lib.hid hb
  clear hx hg
  go_enter Tryz.func46, Tryz.ntmps46
  have S0 := Lib.hid ((Sp.start w).alloc_box #[.string (ms r.name), .int .i64 r.sys, .int .i64 r.size, .int .i64 r.extra] 30)
  go_wp2_with fail
  go_loopw [9, 10] (fun vi vj wr => ∃ lo hi : Nat, lo ≤ hi ∧ hi ≤ xs.length ∧ vi = .int .i64 lo ∧ vj = .int .i64 hi ∧ Hid (Half xs r lo hi) ∧ Hid (Sp w wr [Box w.heap.size 30 #[.string (ms r.name), .int .i64 r.sys, .int .i64 r.size, .int .i64 r.extra]])) (fun vi vj _ => (intOf vj).toNat - (intOf vi).toNat)
  case atStart => exact ⟨0, xs.length, Nat.zero_le _, Nat.le_refl _, rfl, rfl, ⟨fun _ _ h => absurd h (by omega), fun _ _ h => absurd h (by omega)⟩, S0⟩
  case round =>
    obtain ⟨lo, hi, hlh, hhi, rfl, rfl, HD, HS⟩ := hrel
    clear S0
    have HB := Lib.hid HS.out.below
    have b0 := cell_regrown (HS.out.cell (i := 0) rfl (o := 0) rfl)
    have b1 := cell_regrown (HS.out.cell (i := 0) rfl (o := 1) rfl)
    have b2 := cell_regrown (HS.out.cell (i := 0) rfl (o := 2) rfl)
    have b3 := cell_regrown (HS.out.cell (i := 0) rfl (o := 3) rfl)
    by_cases hlt : lo < hi
    · rcases hx3 with ⟨rfl, rfl⟩ | ⟨hxn, b, off, rfl, rfl, hxc⟩
      · exact absurd hhi (by simp; omega)
      have hml : (lo + hi) / 2 < xs.length := by omega
      obtain ⟨p0, p1, p2, p3⟩ := hxc ((lo + hi) / 2) hml
      have hp := HB.out.block b p0.lt
      have k0 := cell_regrown (p0.keep hp).1
      have k1 := cell_regrown (p1.keep hp).1
      have k2 := cell_regrown (p2.keep hp).1
      have k3 := cell_regrown (p3.keep hp).1
      have hc := hcmp.out xs[(lo + hi) / 2]
      clear p0 p1 p2 p3 hp hxc
      cases hq : beforeB xs[(lo + hi) / 2] r
      · have HD2 := Lib.hid (HD.out.down hb.out hml hq)
        have hlz := cmpR_lt hq
        generalize cmpR xs[(lo + hi) / 2] r = z at hc hlz
        generalize xs[(lo + hi) / 2] = q at *
        replace hc := Lib.hid hc
        clear hq HD hcmp
        go_wp2_with fail
        refine wp_region_quiet_below (by kernel_rfl) (by kernel_rfl) ?_
        repeat (any_goals (first | go_big_quiet_step ((go_at_fn 25; exact Calls.regrown_of (hc.out _)))))
        refine wpQuiet_nil ?_
        rintro w1 ⟨p, rfl⟩
        have HB2 := Lib.hid (HS.out.grow (below_regrown _ p.d p.os))
        clear HS HB hc k0 k1 k2 k3 b0 b1 b2 b3
        go_wp2_with fail
        go_roundw
        case rel => exact ⟨lo, (lo + hi) / 2, by omega, by omega, rfl, by go_num, HD2, HB2⟩
        case measure => simp [intOf]; omega
      · have HD2 := Lib.hid (HD.out.up hb.out hml hq)
        have hlz := cmpR_lt hq
        generalize cmpR xs[(lo + hi) / 2] r = z at hc hlz
        generalize xs[(lo + hi) / 2] = q at *
        replace hc := Lib.hid hc
        clear hq HD hcmp
        go_wp2_with fail
        refine wp_region_quiet_below (by kernel_rfl) (by kernel_rfl) ?_
        repeat (any_goals (first | go_big_quiet_step ((go_at_fn 25; exact Calls.regrown_of (hc.out _)))))
        refine wpQuiet_nil ?_
        rintro w1 ⟨p, rfl⟩
        have HB2 := Lib.hid (HS.out.grow (below_regrown _ p.d p.os))
        clear HS HB hc k0 k1 k2 k3 b0 b1 b2 b3
        go_wp2_with fail
        go_roundw
        case rel => exact ⟨(lo + hi) / 2 + 1, hi, by omega, by omega, by go_num, rfl, HD2, HB2⟩
        case measure => simp [intOf]; omega
    · obtain rfl : lo = hi := by omega
      have hpos := HD.out.pos hhi
      rcases Nat.lt_or_ge lo xs.length with hl | hl
      · rcases hx3 with ⟨rfl, rfl⟩ | ⟨hxn, b, off, rfl, rfl, hxc⟩
        · exact absurd hl (by simp)
        obtain ⟨p0, p1, p2, p3⟩ := hxc lo hl
        have hp := HB.out.block b p0.lt
        have k0 := cell_regrown (p0.keep hp).1
        have k1 := cell_regrown (p1.keep hp).1
        have k2 := cell_regrown (p2.keep hp).1
        have k3 := cell_regrown (p3.keep hp).1
        have hR : Hid (posR xs r = lo ∧ hitR xs r = decide (cmpR xs[lo] r = 0)) := ⟨hpos, by
          rw [hitR_at hpos hl]
          cases e : sameR xs[lo] r
          · symm; rw [decide_eq_false_iff_not, cmpR_same, e]; simp
          · symm; rw [decide_eq_true_eq, cmpR_same, e]⟩
        have hc := Lib.hid (hcmp.out xs[lo])
        have hli : (lo : Int) < xs.length := by omega
        clear p0 p1 p2 p3 hp hxc HD hpos hcmp
        generalize hz : cmpR xs[lo] r = z at hc hR
        generalize xs[lo] = q at *
        clear hz
        go_wp2_with fail
        refine wp_region_quiet_below (by kernel_rfl) (by kernel_rfl) ?_
        repeat (any_goals (first | go_big_quiet_step ((go_at_fn 25; exact Calls.regrown_of (hc.out _)))))
        refine wpQuiet_nil ?_
        rintro w1 ⟨p, rfl⟩
        have HB2 := (HS.out.grow (below_regrown _ p.d p.os)).below
        clear HS HB hc k0 k1 k2 k3 b0 b1 b2 b3
        go_wp2_with fail
        go_ret2
        exact ⟨by rw [hR.out.1, hR.out.2]; rfl, HB2⟩
      · obtain rfl : lo = xs.length := by omega
        have hR : Hid (posR xs r = xs.length ∧ hitR xs r = false) := ⟨hpos, hitR_end hpos rfl⟩
        clear HD hpos hcmp
        go_wp2_with fail
        refine wp_region_quiet_below (by kernel_rfl) (by kernel_rfl) ?_
        repeat (any_goals (first | go_big_quiet_step (fail)))
        refine wpQuiet_nil ?_
        rintro w1 ⟨p, rfl⟩
        have HB2 := (HS.out.grow (below_regrown _ p.d p.os)).below
        clear HS HB
        go_wp2_with fail
        go_ret2
        exact ⟨by rw [hR.out.1, hR.out.2]; rfl, HB2⟩
end Go.Proofs.YtpiimlmfcdjbbaaGreatDoor

/- copy and append-of-make at rows of elements of several cells; a row with an element put in. No program in sight. -/
namespace Go.Proofs.YtpiimlmfcdjbbaaGreatDoor
open Go.RowKit

section
variable {P : Program}
theorem run_copy_box (w : World) (dT sT ty elem : TypeId) (k g o dLen dCap : Nat) (a : Addr) (sLen sCap : Nat) (cur : Array Value) (t : TypeId) (cs : List Value)
    (hu : P.underlying dT = some (.slice elem)) (hs : (P.info? elem).map (·.size) = some k)
    (hg : w.heap[g]? = some (.cells cur t (0, 0))) (hn : cs.length = Nat.min sLen dLen * k)
    (hsrc : ∀ j v, cs[j]? = some v → w.cell? (a.add j) = some v) (hfit : o + cs.length ≤ cur.size) (h1 : ∀ v ∈ cs, v.oneCell' = true) :
    (Builtin.copy_ #[dT, sT] ty #[.slice (some ⟨g, o, none⟩) dLen dCap, .slice (some a) sLen sCap]).run P w =
      .ok (goInt (Nat.min sLen dLen)) (w.setRow g (cur.toList.take o ++ cs ++ cur.toList.drop (o + cs.length)).toArray) := by
  have hl := run_loadCells_list (P := P) w a cs hsrc
  have hst := run_storeCells_at P g o t cs 0 cur w hg (by simpa using hfit) h1
  cases hq : P.info? elem with
  | none => simp [hq] at hs
  | some i =>
    have hi : i.size = k := by simpa [hq] using hs
    simp [Builtin.copy_, run_underlying hu, Builtin.lenOf, Builtin.firstCells, sizeOf, typeInfo, hq, hi, ← hn, hl, hst]

theorem setRow_size (w : World) (g : Nat) (cs : Array Value) : (w.setRow g cs).heap.size = w.heap.size := by simp [World.setRow]
theorem setRow_drew (w : World) (g : Nat) (cs : Array Value) : (w.setRow g cs).drew = w.drew.setRow g cs := rfl

/-- Where the room does: the elements behind go up, the new one goes in. -/
theorem put_in {cur cs news X Y : List Value} {n i k c m : Nat} (hc : cur.length = c * k) (hn : n + m ≤ c) (hi : i ≤ n) (ht : cur.take (n * k) = cs) (hl : news.length = m * k)
    (hX : X = cur.take ((i + m) * k) ++ cs.drop (i * k) ++ cur.drop ((i + m) * k + (cs.drop (i * k)).length)) (hY : Y = X.take (i * k) ++ news ++ X.drop (i * k + news.length)) :
    X.length = c * k ∧ Y.length = c * k ∧ Y.take ((n + m) * k) = cs.take (i * k) ++ news ++ cs.drop (i * k) := by
  have hnk : (n + m) * k ≤ c * k := Nat.mul_le_mul_right k hn
  have hik : i * k ≤ n * k := Nat.mul_le_mul_right k hi
  have e1 : (n + m) * k = n * k + m * k := by rw [Nat.add_mul]
  have e2 : (i + m) * k = i * k + m * k := by rw [Nat.add_mul]
  have hcs : cs.length = n * k := by rw [← ht, List.length_take]; omega
  have hd : (cs.drop (i * k)).length = n * k - i * k := by rw [List.length_drop, hcs]
  have hXl : X.length = c * k := by
    rw [hX, List.length_append, List.length_append, List.length_take, hd, List.length_drop, hc, e2]; omega
  have hXt : X.take (i * k) = cs.take (i * k) := by
    rw [hX, List.append_assoc, List.take_append_of_le_length (by rw [List.length_take, hc, e2]; omega), List.take_take, Nat.min_eq_left (by omega), ← ht, List.take_take, Nat.min_eq_left hik]
  have hXd : X.drop (i * k + news.length) = cs.drop (i * k) ++ cur.drop ((i + m) * k + (cs.drop (i * k)).length) := by
    rw [hX, List.append_assoc, List.drop_append_of_le_length (by rw [List.length_take, hc, e2, hl]; omega)]
    rw [List.drop_eq_nil_of_le (by rw [List.length_take, hc, e2, hl]; omega), List.nil_append]
  refine ⟨hXl, ?_, ?_⟩
  · rw [hY, List.length_append, List.length_append, List.length_take, List.length_drop, hXl, hl]; omega
  · rw [hY, hXt, hXd, ← List.append_assoc]
    have hl3 : (cs.take (i * k) ++ news ++ cs.drop (i * k)).length = (n + m) * k := by
      rw [List.length_append, List.length_append, List.length_take, hcs, hl, hd, e1]; omega
    rw [List.take_append_of_le_length (by omega), List.take_of_length_le (by omega)]
/-- Where there is no room: a new row is filled. -/
theorem put_new {row cs news X Y : List Value} {n i k G m : Nat} (hG : n + m ≤ G) (hi : i ≤ n) (hcs : cs.length = n * k) (hl : news.length = m * k) (hr : row.length = G * k) (ht : row.take (i * k) = cs.take (i * k))
    (hX : X = row.take (i * k) ++ news ++ row.drop (i * k + news.length)) (hY : Y = X.take ((i + m) * k) ++ cs.drop (i * k) ++ X.drop ((i + m) * k + (cs.drop (i * k)).length)) :
    X.length = G * k ∧ Y.length = G * k ∧ Y.take ((n + m) * k) = cs.take (i * k) ++ news ++ cs.drop (i * k) := by
  have hnk : (n + m) * k ≤ G * k := Nat.mul_le_mul_right k hG
  have hik : i * k ≤ n * k := Nat.mul_le_mul_right k hi
  have e1 : (n + m) * k = n * k + m * k := by rw [Nat.add_mul]
  have e2 : (i + m) * k = i * k + m * k := by rw [Nat.add_mul]
  have hd : (cs.drop (i * k)).length = n * k - i * k := by rw [List.length_drop, hcs]
  have hXl : X.length = G * k := by
    rw [hX, List.length_append, List.length_append, List.length_take, List.length_drop, hr, hl]; omega
  have h2 : (row.take (i * k) ++ news).length = (i + m) * k := by rw [List.length_append, List.length_take, hr, hl, e2]; omega
  have hXt : X.take ((i + m) * k) = cs.take (i * k) ++ news := by
    rw [hX, List.take_append_of_le_length (by omega), List.take_of_length_le (by omega), ht]
  refine ⟨hXl, ?_, ?_⟩
  · rw [hY, List.length_append, List.length_append, List.length_take, hd, List.length_drop, hXl, e2]; omega
  · have hl3 : (cs.take (i * k) ++ news ++ cs.drop (i * k)).length = (n + m) * k := by
      rw [List.length_append, List.length_append, List.length_take, hcs, hl, hd, e1]; omega
    rw [hY, hXt, List.take_append_of_le_length (by omega), List.take_of_length_le (by omega)]
end

/-- An own row seen as a block. -/
theorem owns_block {w : World} {e : TypeId} {k n c : Nat} {A : Option Addr} {cs : List Value} (h : w.ownsRow 0 e k (.slice A n c) n cs) (hn : 0 < n) :
    ∃ g cur, A = some ⟨g, 0, none⟩ ∧ w.heap[g]? = some (.cells cur e (0, 0)) ∧ n ≤ c ∧ c ≤ maxLen ∧ cur.toList.length = c * k ∧ cur.toList.take (n * k) = cs ∧ cs.length = n * k := by
  obtain ⟨hl, ⟨_, h0⟩ | ⟨g, cap, cur, he, _, hh, hn, hm, hcs, ht⟩⟩ := h
  · omega
  · simp only [Value.slice.injEq] at he
    obtain ⟨rfl, _, rfl⟩ := he
    exact ⟨g, cur, rfl, hh, hn, hm, by simpa using hcs, ht, hl⟩
theorem owns_mk {w : World} {e : TypeId} {k n c g : Nat} {cur cs : List Value} (hh : w.heap[g]? = some (.cells cur.toArray e (0, 0))) (hn : n ≤ c) (hm : c ≤ maxLen) (hc : cur.length = c * k) (ht : cur.take (n * k) = cs) :
    w.ownsRow 0 e k (.slice (some ⟨g, 0, none⟩) n c) n cs :=
  ⟨by rw [← ht, List.length_take, hc]; exact Nat.min_eq_left (Nat.mul_le_mul_right k hn), .inr ⟨g, c, cur.toArray, rfl, Nat.zero_le _, hh, hn, hm, by simpa using hc, by simpa using ht⟩⟩
end Go.Proofs.YtpiimlmfcdjbbaaGreatDoor
