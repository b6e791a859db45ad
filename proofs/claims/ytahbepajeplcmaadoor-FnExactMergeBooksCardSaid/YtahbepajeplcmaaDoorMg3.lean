/- Lemmas and contracts for a law, put together out of several texts: BookH BookI BmD SepB BmC BmE OwnB BrA BmF. -/
import Derived.Test.YtahbepajeplcmaaDoorMg2
import Derived.Lib.QuietBelow
import Derived.Test.YtahbepajeplcmaaDoorMg1
import Derived.Laws.CopyRow
import Derived.Lib.AppendZerosOnto
import Derived.Lib.Overlaps
import Derived.Shelf.Spec.SlicesInsert
import Derived.Deep.AppendSrc
import Derived.Deep.RegionLaw
import Derived.Laws.NewBlocks
/- Contracts: records compared. -/
namespace Go.Proofs.YtahbepajeplcmaaDoor
open Go.RowKit

theorem drew_size (w : World) : w.drew.heap.size = w.heap.size := rfl

set_option maxRecDepth 100000 in
set_option maxHeartbeats 4000000 in
theorem compareRecords_any (a b : Rec) (w : World) :
    Calls Tryd.prog 39 #[rcV a, rcV b] w fun e w' => e = .returned (.int .i64 (cmpR a b)) ∧ Below w.heap.size w w' := by
  have S0 := (((Sp.start w).alloc_box #[.string (ms a.name), .int .i64 a.sys, .int .i64 a.size, .int .i64 a.extra] 38).alloc_box #[.string (ms b.name), .int .i64 b.sys, .int .i64 b.size, .int .i64 b.extra] 38).drew
  simp only [World.size_alloc] at S0
  have c0 := S0.cell (i := 1) rfl (o := 0) rfl
  have c1 := S0.cell (i := 1) rfl (o := 1) rfl
  have d0 := S0.cell (i := 0) rfl (o := 0) rfl
  have d1 := S0.cell (i := 0) rfl (o := 1) rfl
  have hsc : ∀ w', Calls Tryd.prog 53 #[.string (ms a.name), .string (ms b.name)] w' fun e w'' => e = .returned (.int .i64 (Lib.compareBytes a.name b.name)) ∧ w'' = w' := fun w' => Tryd.strings_Compare (ms a.name) (ms b.name) w'
  obtain ⟨x, hx⟩ : ∃ x, Lib.compareBytes a.name b.name = x := ⟨_, rfl⟩
  obtain ⟨y, hy⟩ : ∃ y, Lib.compareInt a.sys b.sys = y := ⟨_, rfl⟩
  have hR : Hid (orN x y = cmpR a b) := by unfold Hid cmpR; rw [hx, hy]
  have hcc : ∀ w', Calls Tryd.prog 54 #[.int .i64 a.sys, .int .i64 b.sys] w' fun e w'' => e = .returned (.int .i64 y) ∧ w'' = w' := fun w' => by
    have := Tryd.cmp_Compare_int a.sys b.sys w'
    rw [hy] at this
    exact this
  rw [hx] at hsc
  replace hsc := Lib.hid hsc
  replace hcc := Lib.hid hcc
  replace S0 := Lib.hid S0
  clear hx hy
  go_enter Tryd.func39, Tryd.ntmps39
  go_wp2_with fail
  refine wp_region_held_lit (S := (fun w' => w'.cell? ⟨w.heap.size, 0, none⟩ = some (.string (ms a.name)) ∧ w'.cell? ⟨w.heap.size, 1, none⟩ = some (.int .i64 a.sys) ∧ w'.cell? ⟨w.heap.size + 1, 0, none⟩ = some (.string (ms b.name)) ∧ w'.cell? ⟨w.heap.size + 1, 1, none⟩ = some (.int .i64 b.sys))) 13 [false, false, false, false, false, false, false, false, false, false, false, false, false] (by kernel_rfl) (by kernel_rfl) (by kernel_rfl) ?_ ?_
  · exact ⟨c0, c1, d0, d1⟩
  intro hSc
  (refine wpAnyH_take (i := 0) (v := ?_) rfl (by kernel_rfl) (by kernel_rfl) (by kernel_rfl) (fun _ _ _ h => h) (Or.inl ⟨by rfl, ?_⟩) (by assumption) ?_; rotate_left; (focus (intro w hSw; (try dsimp only at hSw); go_simp; (try with_reducible rfl); done)); (try simp only [put_rules]))
  (refine wpAnyH_take (i := 1) (v := ?_) rfl (by kernel_rfl) (by kernel_rfl) (by kernel_rfl) (fun _ _ _ h => h) (Or.inl ⟨by rfl, ?_⟩) (by assumption) ?_; rotate_left; (focus (intro w hSw; (try dsimp only at hSw); go_simp; (try with_reducible rfl); done)); (try simp only [put_rules]))
  (refine wpAnyH_take (i := 2) (v := ?_) rfl (by kernel_rfl) (by kernel_rfl) (by kernel_rfl) (fun _ _ _ h => h) (Or.inl ⟨by rfl, ?_⟩) (by assumption) ?_; rotate_left; (focus (intro w hSw; (try dsimp only at hSw); go_simp; (try with_reducible rfl); done)); (try simp only [put_rules]))
  (refine wpAnyH_take (i := 3) (v := ?_) rfl (by kernel_rfl) (by kernel_rfl) (by kernel_rfl) (fun _ _ _ h => h) (Or.inl ⟨by rfl, ?_⟩) (by assumption) ?_; rotate_left; (focus (intro w hSw; (try dsimp only at hSw); go_simp; (try with_reducible rfl); done)); (try simp only [put_rules]))
  (refine wpAnyH_take (i := 5) (v := ?_) rfl (by kernel_rfl) (by kernel_rfl) (by kernel_rfl) (fun _ _ _ h => h) (Or.inl ⟨by rfl, ?_⟩) (by assumption) ?_; rotate_left; (focus (intro w hSw; (try dsimp only at hSw); go_simp; (try with_reducible rfl); done)); (try simp only [put_rules]))
  (refine wpAnyH_take (i := 6) (v := ?_) rfl (by kernel_rfl) (by kernel_rfl) (by kernel_rfl) (fun _ _ _ h => h) (Or.inl ⟨by rfl, ?_⟩) (by assumption) ?_; rotate_left; (focus (intro w hSw; (try dsimp only at hSw); go_simp; (try with_reducible rfl); done)); (try simp only [put_rules]))
  (refine wpAnyH_take (i := 7) (v := ?_) rfl (by kernel_rfl) (by kernel_rfl) (by kernel_rfl) (fun _ _ _ h => h) (Or.inl ⟨by rfl, ?_⟩) (by assumption) ?_; rotate_left; (focus (intro w hSw; (try dsimp only at hSw); go_simp; (try with_reducible rfl); done)); (try simp only [put_rules]))
  (refine wpAnyH_take (i := 8) (v := ?_) rfl (by kernel_rfl) (by kernel_rfl) (by kernel_rfl) (fun _ _ _ h => h) (Or.inl ⟨by rfl, ?_⟩) (by assumption) ?_; rotate_left; (focus (intro w hSw; (try dsimp only at hSw); go_simp; (try with_reducible rfl); done)); (try simp only [put_rules]))
  (refine wpAnyH_ready (rs := [4]) (by kernel_rfl) (by simp) ?_; refine AllReadyH.cons rfl (fun K hK => ?_) AllReadyH.nil)
  go_simp
  go_at_call 53
  refine (hsc.out _).mono ?_
  rintro e w1 ⟨rfl, rfl⟩
  go_wp2_with fail
  refine hK.out _ _ ⟨c0, c1, d0, d1⟩ (fun hSd => ?_)
  clear hK hSd
  (try simp only [put_rules])
  (refine wpAnyH_ready (rs := [9]) (by kernel_rfl) (by simp) ?_; refine AllReadyH.cons rfl (fun K hK => ?_) AllReadyH.nil)
  go_simp
  go_at_call 54
  refine (hcc.out _).mono ?_
  rintro e w1 ⟨rfl, rfl⟩
  go_wp2_with fail
  refine hK.out _ _ ⟨c0, c1, d0, d1⟩ (fun hSd => ?_)
  clear hK hSd
  (try simp only [put_rules])
  (refine wpAnyH_ready (rs := [10]) (by kernel_rfl) (by simp) ?_; refine AllReadyH.cons rfl (fun K hK => ?_) AllReadyH.nil)
  go_simp
  have S1 := S0.out.alloc_box #[.int .i64 x, .int .i64 y] 3
  simp only [drew_size, World.size_alloc] at S1
  have k0 := S1.cell (i := 0) rfl (o := 0) rfl
  have k1 := S1.cell (i := 0) rfl (o := 1) rfl
  have e0 := S1.cell (i := 2) rfl (o := 0) rfl
  have e1 := S1.cell (i := 2) rfl (o := 1) rfl
  have e2 := S1.cell (i := 1) rfl (o := 0) rfl
  have e3 := S1.cell (i := 1) rfl (o := 1) rfl
  have hB := S1.below
  clear S1
  refine hK.out _ _ ⟨e0, e1, e2, e3⟩ (fun hSd => ?_)
  clear hK hSd
  (try simp only [put_rules])
  (refine wpAnyH_ready (rs := [11]) (by kernel_rfl) (by simp) ?_; refine AllReadyH.cons rfl (fun K hK => ?_) AllReadyH.nil)
  go_simp
  go_at_call 52
  refine (cmpOr_any _ x y _ k0 k1).mono ?_
  rintro e w2 ⟨rfl, rfl⟩
  go_wp2_with fail
  refine hK.out _ _ ⟨e0, e1, e2, e3⟩ (fun hSd => ?_)
  clear hK
  (try simp only [put_rules])
  (refine wpAnyH_take (i := 12) (v := ?_) rfl (by kernel_rfl) (by kernel_rfl) (by kernel_rfl) (fun _ _ _ h => h) (Or.inl ⟨by rfl, ?_⟩) (by assumption) ?_; rotate_left; (focus (intro w hSw; (try dsimp only at hSw); go_simp; (try with_reducible rfl); done)); (try simp only [put_rules]))
  (refine wpAnyH_done (by kernel_rfl) ?_ _)
  go_wp2_with fail
  go_ret
  exact ⟨ret_int hR.out, hB⟩
end Go.Proofs.YtahbepajeplcmaaDoor

/- Contracts: whether a list is a book. Printed by gen_book.py. -/
namespace Go.Proofs.YtahbepajeplcmaaDoor
open Go.RowKit

theorem book_no {xs : List Rec} {k : Nat} (hk : k < xs.length) (h : bkOk xs k = false) : bookB xs = false := by
  unfold bookB
  rw [bkOkTo_le (k := k + 1) (by omega) (by rw [bkOkTo_succ, h, Bool.and_false]), Bool.false_and]
theorem rec_no {xs : List Rec} {k : Nat} (hk : k < xs.length) (h : recB xs[k] = false) : bookB xs = false := by
  refine book_no hk ?_
  cases k with
  | zero => rw [bkOk_zero xs hk]; exact h
  | succ k => rw [bkOk_succ xs k hk, h, Bool.false_and]
theorem ok_next {xs : List Rec} {k : Nat} (h : bkOkTo xs k = true) (h2 : bkOk xs k = true) : bkOkTo xs (k + 1) = true := by rw [bkOkTo_succ, h, h2]; rfl
theorem l31Name_at {l : List UInt8} {q : Bool} (h : nameB l = q) (w : World) (hs : l.length ≤ 9223372036854775807) :
    Calls Tryd.prog 32 #[.string (ms l)] w fun e w' => e = .returned (.bool q) ∧ w = w' := h ▸ l31Name_any (ms l) w hs
theorem nameOk_at {l : List UInt8} {q : Bool} (h : nameB l = q) (w : World) (hs : l.length ≤ 9223372036854775807) :
    Calls Tryd.prog 36 #[.string (ms l)] w fun e w' => e = .returned (.bool q) ∧ w = w' := h ▸ nameOk_any (ms l) w hs
theorem l31Before_at {r : Rec} {n : List UInt8} {s : Int} {q : Bool} (h : (Op.bytesLess r.name n || ((r.name == n) && decide (r.sys < s))) = q) (w : World) :
    Calls Tryd.prog 35 #[rcV r, .string (ms n), .int .i64 s] w fun e w' => e = .returned (.bool q) ∧ Below w.heap.size w w' := h ▸ l31Before_any r n s w

set_option maxRecDepth 100000 in
set_option maxHeartbeats 8000000 in
theorem l31Good_any (v : Value) (xs : List Rec) (F : List Nat) (w : World) (hx : rcTy.row false w v xs F) :
    Calls Tryd.prog 15 #[v] w fun e w' => e = .returned (.bool (bookB xs)) ∧ Below w.heap.size w w' := by
  obtain ⟨a, c, rfl, hx1, hx2, hg, hx3⟩ := row_rc hx
  clear hx
  by_cases h24 : (24 : Int) < xs.length
  · have hR : Hid (bookB xs = false) := by unfold Hid bookB; rw [decide_eq_false (show ¬ xs.length ≤ 24 by omega), Bool.and_false]
    go_enter Tryd.func15, Tryd.ntmps15
    go_wp2_with fail
    go_ret
    exact ⟨ret_bool hR.out.symm, bb _⟩
  go_enter Tryd.func15, Tryd.ntmps15
  go_wp2_with fail
  go_loopw [3] (fun i wr => ∃ k : Nat, k ≤ xs.length ∧ i = .int .i64 k ∧ Hid (bkOkTo xs k = true) ∧ Hid (Below w.heap.size w wr)) (fun i _ => xs.length - (intOf i).toNat)
  case atStart => exact ⟨0, Nat.zero_le _, rfl, rfl, bb _⟩
  case round =>
    obtain ⟨k, hk, rfl, HD, HB⟩ := hrel
    by_cases hlt : k < xs.length
    · rcases hx3 with ⟨rfl, rfl⟩ | ⟨hxn, b, off, rfl, rfl, hxc⟩
      · exact absurd hlt (by simp)
      obtain ⟨p0, p1, p2, p3⟩ := hxc k hlt
      have hp := HB.out.block b p0.lt
      have k0 := (p0.keep hp).1
      have k1 := (p1.keep hp).1
      have k2 := (p2.keep hp).1
      have k3 := (p3.keep hp).1
      have hno := Lib.hid (fun h => rec_no (xs := xs) hlt h)
      have hok := hg _ (List.getElem_mem hlt)
      have hnl := hok.1
      have S1 := (Sp.of_below HB.out).alloc_box #[.string (ms xs[k].name), .int .i64 xs[k].sys, .int .i64 xs[k].size, .int .i64 xs[k].extra] 38
      have b0 := S1.cell (i := 0) rfl (o := 0) rfl
      have b1 := S1.cell (i := 0) rfl (o := 1) rfl
      have b2 := S1.cell (i := 0) rfl (o := 2) rfl
      have b3 := S1.cell (i := 0) rfl (o := 3) rfl
      replace S1 := Lib.hid S1
      cases hn : nameB xs[k].name
      · have hR : Hid (bookB xs = false) := hno.out (by unfold recB; rw [hn]; simp)
        have hB := S1.out.below
        clear hno HD HB hxc p0 p1 p2 p3 b0 b1 b2 b3 S1
        go_wp2_with (first | (go_at_call 32; refine (l31Name_at hn _ hnl).mono ?_; rintro e w2 ⟨rfl, rfl⟩) | (go_at_call 33; refine (l31System_any _ _).mono ?_; rintro e w2 ⟨rfl, rfl⟩) | (go_at_call 34; refine (l1In_any _ _ _ _).mono ?_; rintro e w2 ⟨rfl, rfl⟩))
        go_ret
        exact ⟨ret_bool hR.out.symm, hB⟩
      cases hs : inB xs[k].sys 1 4
      · have hR : Hid (bookB xs = false) := hno.out (by unfold recB; rw [hn, hs]; simp)
        have hB := S1.out.below
        clear hno HD HB hxc p0 p1 p2 p3 b0 b1 b2 b3 S1
        go_wp2_with (first | (go_at_call 32; refine (l31Name_at hn _ hnl).mono ?_; rintro e w2 ⟨rfl, rfl⟩) | (go_at_call 33; refine (l31System_any _ _).mono ?_; rintro e w2 ⟨rfl, rfl⟩) | (go_at_call 34; refine (l1In_any _ _ _ _).mono ?_; rintro e w2 ⟨rfl, rfl⟩))
        go_ret
        exact ⟨ret_bool hR.out.symm, hB⟩
      cases hz : inB xs[k].size 1 9999
      · have hR : Hid (bookB xs = false) := hno.out (by unfold recB; rw [hn, hs, hz]; simp)
        have hB := S1.out.below
        clear hno HD HB hxc p0 p1 p2 p3 b0 b1 b2 b3 S1
        go_wp2_with (first | (go_at_call 32; refine (l31Name_at hn _ hnl).mono ?_; rintro e w2 ⟨rfl, rfl⟩) | (go_at_call 33; refine (l31System_any _ _).mono ?_; rintro e w2 ⟨rfl, rfl⟩) | (go_at_call 34; refine (l1In_any _ _ _ _).mono ?_; rintro e w2 ⟨rfl, rfl⟩))
        go_ret
        exact ⟨ret_bool hR.out.symm, hB⟩
      cases he : inB xs[k].extra 0 9999
      · have hR : Hid (bookB xs = false) := hno.out (by unfold recB; rw [hn, hs, hz, he]; simp)
        have hB := S1.out.below
        clear hno HD HB hxc p0 p1 p2 p3 b0 b1 b2 b3 S1
        go_wp2_with (first | (go_at_call 32; refine (l31Name_at hn _ hnl).mono ?_; rintro e w2 ⟨rfl, rfl⟩) | (go_at_call 33; refine (l31System_any _ _).mono ?_; rintro e w2 ⟨rfl, rfl⟩) | (go_at_call 34; refine (l1In_any _ _ _ _).mono ?_; rintro e w2 ⟨rfl, rfl⟩))
        go_ret
        exact ⟨ret_bool hR.out.symm, hB⟩
      have hrec : recB xs[k] = true := by unfold recB; rw [hn, hs, hz, he]; rfl
      rcases k with _ | k
      · have HD2 := Lib.hid (ok_next HD.out (by rw [bkOk_zero xs hlt]; exact hrec))
        clear hno HD HB hxc p0 p1 p2 p3 hrec hok
        simp only [Nat.zero_mul, Nat.add_zero] at k0 k1 k2 k3
        go_wp2_with (first | (go_at_call 32; refine (l31Name_at hn _ hnl).mono ?_; rintro e w2 ⟨rfl, rfl⟩) | (go_at_call 33; refine (l31System_any _ _).mono ?_; rintro e w2 ⟨rfl, rfl⟩) | (go_at_call 34; refine (l1In_any _ _ _ _).mono ?_; rintro e w2 ⟨rfl, rfl⟩))
        refine wp_region_quiet_below (by kernel_rfl) (by kernel_rfl) ?_
        repeat (any_goals (go_big_quiet_step (fail)))
        refine wpQuiet_nil ?_
        rintro w3 ⟨p, rfl⟩
        have HB2 := Lib.hid (S1.out.grow (below_regrown _ p.d p.os)).below
        clear S1 b0 b1 b2 b3
        go_wp2_with fail
        go_roundw
        case rel => exact ⟨1, by omega, by go_num, HD2, HB2⟩
        case measure => simp [intOf]; omega
      · obtain ⟨q0, q1, q2, q3⟩ := hxc k (by omega)
        have hl1 : k < xs.length := by omega
        have m0 := cell_regrown (((q0.keep hp).keep (show (World.alloc _ (.cells #[.string (ms xs[k + 1].name), .int .i64 xs[k + 1].sys, .int .i64 xs[k + 1].size, .int .i64 xs[k + 1].extra] 38)).heap[b]? = _ from (bal (bb _) _).block b (Nat.lt_of_lt_of_le q0.lt HB.out.size))).1)
        have r0 := cell_regrown b0
        have m1 := cell_regrown (((q1.keep hp).keep (show (World.alloc _ (.cells #[.string (ms xs[k + 1].name), .int .i64 xs[k + 1].sys, .int .i64 xs[k + 1].size, .int .i64 xs[k + 1].extra] 38)).heap[b]? = _ from (bal (bb _) _).block b (Nat.lt_of_lt_of_le q1.lt HB.out.size))).1)
        have r1 := cell_regrown b1
        have m2 := cell_regrown (((q2.keep hp).keep (show (World.alloc _ (.cells #[.string (ms xs[k + 1].name), .int .i64 xs[k + 1].sys, .int .i64 xs[k + 1].size, .int .i64 xs[k + 1].extra] 38)).heap[b]? = _ from (bal (bb _) _).block b (Nat.lt_of_lt_of_le q2.lt HB.out.size))).1)
        have r2 := cell_regrown b2
        have m3 := cell_regrown (((q3.keep hp).keep (show (World.alloc _ (.cells #[.string (ms xs[k + 1].name), .int .i64 xs[k + 1].sys, .int .i64 xs[k + 1].size, .int .i64 xs[k + 1].extra] 38)).heap[b]? = _ from (bal (bb _) _).block b (Nat.lt_of_lt_of_le q3.lt HB.out.size))).1)
        have r3 := cell_regrown b3
        have hsub : IntKind.i64.wrap (((k + 1 : Nat) : Int) - 1) = (k : Int) := by rw [IntWalk.i64_in _ (by omega)]; omega
        cases hq : beforeB xs[k] xs[k + 1]
        · skip
          have hR : Hid (bookB xs = false) := book_no hlt (by rw [bkOk_succ xs k hlt, hq, Bool.and_false])
          have hcall := Lib.hid (fun w => l31Before_at (r := xs[k]) (n := xs[k + 1].name) (s := xs[k + 1].sys) hq w)
          clear hno HD HB hxc p0 p1 p2 p3 q0 q1 q2 q3 hrec hok hp hq
          go_wp2_with (first | (go_at_call 32; refine (l31Name_at hn _ hnl).mono ?_; rintro e w2 ⟨rfl, rfl⟩) | (go_at_call 33; refine (l31System_any _ _).mono ?_; rintro e w2 ⟨rfl, rfl⟩) | (go_at_call 34; refine (l1In_any _ _ _ _).mono ?_; rintro e w2 ⟨rfl, rfl⟩))
          refine wp_region_quiet_below (by kernel_rfl) (by kernel_rfl) ?_
          repeat (any_goals (first | go_big_quiet_step ((go_at_call 35; exact Calls.regrown_of (hcall.out _)))))
          refine wpQuiet_nil ?_
          rintro w3 ⟨p, rfl⟩
          have HB2 := Lib.hid (S1.out.grow (below_regrown _ p.d p.os)).below
          clear S1 b0 b1 b2 b3 m0 m1 m2 m3 r0 r1 r2 r3
          go_wp2_with fail
          go_ret
          exact ⟨ret_bool hR.out.symm, HB2.out⟩
        · skip
          have HD2 := Lib.hid (ok_next HD.out (by rw [bkOk_succ xs k hlt, hrec, hq]; rfl))
          have hcall := Lib.hid (fun w => l31Before_at (r := xs[k]) (n := xs[k + 1].name) (s := xs[k + 1].sys) hq w)
          clear hno HD HB hxc p0 p1 p2 p3 q0 q1 q2 q3 hrec hok hp hq
          go_wp2_with (first | (go_at_call 32; refine (l31Name_at hn _ hnl).mono ?_; rintro e w2 ⟨rfl, rfl⟩) | (go_at_call 33; refine (l31System_any _ _).mono ?_; rintro e w2 ⟨rfl, rfl⟩) | (go_at_call 34; refine (l1In_any _ _ _ _).mono ?_; rintro e w2 ⟨rfl, rfl⟩))
          refine wp_region_quiet_below (by kernel_rfl) (by kernel_rfl) ?_
          repeat (any_goals (first | go_big_quiet_step ((go_at_call 35; exact Calls.regrown_of (hcall.out _)))))
          refine wpQuiet_nil ?_
          rintro w3 ⟨p, rfl⟩
          have HB2 := Lib.hid (S1.out.grow (below_regrown _ p.d p.os)).below
          clear S1 b0 b1 b2 b3 m0 m1 m2 m3 r0 r1 r2 r3
          go_wp2_with fail
          go_roundw
          case rel => exact ⟨k + 2, by omega, by go_num, HD2, HB2⟩
          case measure => simp [intOf]; omega
    · obtain rfl : k = xs.length := by omega
      have hR : Hid (bookB xs = true) := by unfold Hid bookB; rw [HD.out, decide_eq_true (show xs.length ≤ 24 by omega)]; rfl
      clear HD
      go_wp2_with fail
      go_ret
      exact ⟨ret_bool hR.out.symm, HB.out⟩

set_option maxRecDepth 100000 in
set_option maxHeartbeats 8000000 in
theorem isBook_any (v : Value) (xs : List Rec) (F : List Nat) (w : World) (hx : rcTy.row false w v xs F) :
    Calls Tryd.prog 18 #[v] w fun e w' => e = .returned (.bool (bookB xs)) ∧ Below w.heap.size w w' := by
  obtain ⟨a, c, rfl, hx1, hx2, hg, hx3⟩ := row_rc hx
  clear hx
  go_enter Tryd.func18, Tryd.ntmps18
  go_wp2_with fail
  go_loopw [7] (fun i wr => ∃ k : Nat, k ≤ xs.length ∧ i = .int .i64 k ∧ Hid (bkOkTo xs k = true) ∧ Hid (Below w.heap.size w wr)) (fun i _ => xs.length - (intOf i).toNat)
  case atStart => exact ⟨0, Nat.zero_le _, rfl, rfl, bb _⟩
  case round =>
    obtain ⟨k, hk, rfl, HD, HB⟩ := hrel
    by_cases hlt : k < xs.length
    · rcases hx3 with ⟨rfl, rfl⟩ | ⟨hxn, b, off, rfl, rfl, hxc⟩
      · exact absurd hlt (by simp)
      obtain ⟨p0, p1, p2, p3⟩ := hxc k hlt
      have hp := HB.out.block b p0.lt
      have k0 := (p0.keep hp).1
      have k1 := (p1.keep hp).1
      have k2 := (p2.keep hp).1
      have k3 := (p3.keep hp).1
      have hno := Lib.hid (fun h => rec_no (xs := xs) hlt h)
      have hok := hg _ (List.getElem_mem hlt)
      have hnl := hok.1
      have S1 := (Sp.of_below HB.out).alloc_box #[.string (ms xs[k].name), .int .i64 xs[k].sys, .int .i64 xs[k].size, .int .i64 xs[k].extra] 38
      have b0 := S1.cell (i := 0) rfl (o := 0) rfl
      have b1 := S1.cell (i := 0) rfl (o := 1) rfl
      have b2 := S1.cell (i := 0) rfl (o := 2) rfl
      have b3 := S1.cell (i := 0) rfl (o := 3) rfl
      replace S1 := Lib.hid S1
      cases hn : nameB xs[k].name
      · have hR : Hid (bookB xs = false) := hno.out (by unfold recB; rw [hn]; simp)
        have hB := S1.out.below
        clear hno HD HB hxc p0 p1 p2 p3 b0 b1 b2 b3 S1
        go_wp2_with (first | (go_at_call 36; refine (nameOk_at hn _ hnl).mono ?_; rintro e w2 ⟨rfl, rfl⟩) | (go_at_call 37; refine (systemOk_any _ _).mono ?_; rintro e w2 ⟨rfl, rfl⟩) | (go_at_call 38; refine (within_any _ _ _ _).mono ?_; rintro e w2 ⟨rfl, rfl⟩))
        go_ret
        exact ⟨ret_bool hR.out.symm, hB⟩
      cases hs : inB xs[k].sys 1 4
      · have hR : Hid (bookB xs = false) := hno.out (by unfold recB; rw [hn, hs]; simp)
        have hB := S1.out.below
        clear hno HD HB hxc p0 p1 p2 p3 b0 b1 b2 b3 S1
        go_wp2_with (first | (go_at_call 36; refine (nameOk_at hn _ hnl).mono ?_; rintro e w2 ⟨rfl, rfl⟩) | (go_at_call 37; refine (systemOk_any _ _).mono ?_; rintro e w2 ⟨rfl, rfl⟩) | (go_at_call 38; refine (within_any _ _ _ _).mono ?_; rintro e w2 ⟨rfl, rfl⟩))
        go_ret
        exact ⟨ret_bool hR.out.symm, hB⟩
      cases hz : inB xs[k].size 1 9999
      · have hR : Hid (bookB xs = false) := hno.out (by unfold recB; rw [hn, hs, hz]; simp)
        have hB := S1.out.below
        clear hno HD HB hxc p0 p1 p2 p3 b0 b1 b2 b3 S1
        go_wp2_with (first | (go_at_call 36; refine (nameOk_at hn _ hnl).mono ?_; rintro e w2 ⟨rfl, rfl⟩) | (go_at_call 37; refine (systemOk_any _ _).mono ?_; rintro e w2 ⟨rfl, rfl⟩) | (go_at_call 38; refine (within_any _ _ _ _).mono ?_; rintro e w2 ⟨rfl, rfl⟩))
        go_ret
        exact ⟨ret_bool hR.out.symm, hB⟩
      cases he : inB xs[k].extra 0 9999
      · have hR : Hid (bookB xs = false) := hno.out (by unfold recB; rw [hn, hs, hz, he]; simp)
        have hB := S1.out.below
        clear hno HD HB hxc p0 p1 p2 p3 b0 b1 b2 b3 S1
        go_wp2_with (first | (go_at_call 36; refine (nameOk_at hn _ hnl).mono ?_; rintro e w2 ⟨rfl, rfl⟩) | (go_at_call 37; refine (systemOk_any _ _).mono ?_; rintro e w2 ⟨rfl, rfl⟩) | (go_at_call 38; refine (within_any _ _ _ _).mono ?_; rintro e w2 ⟨rfl, rfl⟩))
        go_ret
        exact ⟨ret_bool hR.out.symm, hB⟩
      have hrec : recB xs[k] = true := by unfold recB; rw [hn, hs, hz, he]; rfl
      rcases k with _ | k
      · have HD2 := Lib.hid (ok_next HD.out (by rw [bkOk_zero xs hlt]; exact hrec))
        clear hno HD HB hxc p0 p1 p2 p3 hrec hok
        simp only [Nat.zero_mul, Nat.add_zero] at k0 k1 k2 k3
        go_wp2_with (first | (go_at_call 36; refine (nameOk_at hn _ hnl).mono ?_; rintro e w2 ⟨rfl, rfl⟩) | (go_at_call 37; refine (systemOk_any _ _).mono ?_; rintro e w2 ⟨rfl, rfl⟩) | (go_at_call 38; refine (within_any _ _ _ _).mono ?_; rintro e w2 ⟨rfl, rfl⟩))
        refine wp_region_quiet_below (by kernel_rfl) (by kernel_rfl) ?_
        repeat (any_goals (go_big_quiet_step (fail)))
        refine wpQuiet_nil ?_
        rintro w3 ⟨p, rfl⟩
        have HB2 := Lib.hid (S1.out.grow (below_regrown _ p.d p.os)).below
        clear S1 b0 b1 b2 b3
        go_wp2_with fail
        go_roundw
        case rel => exact ⟨1, by omega, by go_num, HD2, HB2⟩
        case measure => simp [intOf]; omega
      · obtain ⟨q0, q1, q2, q3⟩ := hxc k (by omega)
        have hl1 : k < xs.length := by omega
        have m0 := cell_regrown (((q0.keep hp).keep (show (World.alloc _ (.cells #[.string (ms xs[k + 1].name), .int .i64 xs[k + 1].sys, .int .i64 xs[k + 1].size, .int .i64 xs[k + 1].extra] 38)).heap[b]? = _ from (bal (bb _) _).block b (Nat.lt_of_lt_of_le q0.lt HB.out.size))).1)
        have r0 := cell_regrown b0
        have m1 := cell_regrown (((q1.keep hp).keep (show (World.alloc _ (.cells #[.string (ms xs[k + 1].name), .int .i64 xs[k + 1].sys, .int .i64 xs[k + 1].size, .int .i64 xs[k + 1].extra] 38)).heap[b]? = _ from (bal (bb _) _).block b (Nat.lt_of_lt_of_le q1.lt HB.out.size))).1)
        have r1 := cell_regrown b1
        have m2 := cell_regrown (((q2.keep hp).keep (show (World.alloc _ (.cells #[.string (ms xs[k + 1].name), .int .i64 xs[k + 1].sys, .int .i64 xs[k + 1].size, .int .i64 xs[k + 1].extra] 38)).heap[b]? = _ from (bal (bb _) _).block b (Nat.lt_of_lt_of_le q2.lt HB.out.size))).1)
        have r2 := cell_regrown b2
        have m3 := cell_regrown (((q3.keep hp).keep (show (World.alloc _ (.cells #[.string (ms xs[k + 1].name), .int .i64 xs[k + 1].sys, .int .i64 xs[k + 1].size, .int .i64 xs[k + 1].extra] 38)).heap[b]? = _ from (bal (bb _) _).block b (Nat.lt_of_lt_of_le q3.lt HB.out.size))).1)
        have r3 := cell_regrown b3
        have hsub : IntKind.i64.wrap (((k + 1 : Nat) : Int) - 1) = (k : Int) := by rw [IntWalk.i64_in _ (by omega)]; omega
        cases hq : beforeB xs[k] xs[k + 1]
        · skip
          have hR : Hid (bookB xs = false) := book_no hlt (by rw [bkOk_succ xs k hlt, hq, Bool.and_false])
          have hz0 : 0 ≤ cmpR xs[k] xs[k + 1] := (cmpR_neg _ _).2 hq
          have hcall := Lib.hid (fun w => compareRecords_any xs[k] xs[k + 1] w)
          generalize cmpR xs[k] xs[k + 1] = z at hz0 hcall
          clear hno HD HB hxc p0 p1 p2 p3 q0 q1 q2 q3 hrec hok hp hq
          go_wp2_with (first | (go_at_call 36; refine (nameOk_at hn _ hnl).mono ?_; rintro e w2 ⟨rfl, rfl⟩) | (go_at_call 37; refine (systemOk_any _ _).mono ?_; rintro e w2 ⟨rfl, rfl⟩) | (go_at_call 38; refine (within_any _ _ _ _).mono ?_; rintro e w2 ⟨rfl, rfl⟩))
          refine wp_region_quiet_below (by kernel_rfl) (by kernel_rfl) ?_
          repeat (any_goals (first | go_big_quiet_step ((go_at_call 39; exact Calls.regrown_of (hcall.out _)))))
          refine wpQuiet_nil ?_
          rintro w3 ⟨p, rfl⟩
          have HB2 := Lib.hid (S1.out.grow (below_regrown _ p.d p.os)).below
          clear S1 b0 b1 b2 b3 m0 m1 m2 m3 r0 r1 r2 r3
          go_wp2_with fail
          go_ret
          exact ⟨ret_bool hR.out.symm, HB2.out⟩
        · skip
          have HD2 := Lib.hid (ok_next HD.out (by rw [bkOk_succ xs k hlt, hrec, hq]; rfl))
          have hz0 : ¬ 0 ≤ cmpR xs[k] xs[k + 1] := fun h => by rw [(cmpR_neg _ _).1 h] at hq; cases hq
          have hcall := Lib.hid (fun w => compareRecords_any xs[k] xs[k + 1] w)
          generalize cmpR xs[k] xs[k + 1] = z at hz0 hcall
          clear hno HD HB hxc p0 p1 p2 p3 q0 q1 q2 q3 hrec hok hp hq
          go_wp2_with (first | (go_at_call 36; refine (nameOk_at hn _ hnl).mono ?_; rintro e w2 ⟨rfl, rfl⟩) | (go_at_call 37; refine (systemOk_any _ _).mono ?_; rintro e w2 ⟨rfl, rfl⟩) | (go_at_call 38; refine (within_any _ _ _ _).mono ?_; rintro e w2 ⟨rfl, rfl⟩))
          refine wp_region_quiet_below (by kernel_rfl) (by kernel_rfl) ?_
          repeat (any_goals (first | go_big_quiet_step ((go_at_call 39; exact Calls.regrown_of (hcall.out _)))))
          refine wpQuiet_nil ?_
          rintro w3 ⟨p, rfl⟩
          have HB2 := Lib.hid (S1.out.grow (below_regrown _ p.d p.os)).below
          clear S1 b0 b1 b2 b3 m0 m1 m2 m3 r0 r1 r2 r3
          go_wp2_with fail
          go_roundw
          case rel => exact ⟨k + 2, by omega, by go_num, HD2, HB2⟩
          case measure => simp [intOf]; omega
    · obtain rfl : k = xs.length := by omega
      have hR : Hid (bookB xs = decide ((xs.length : Int) ≤ 24)) := by unfold Hid bookB; rw [HD.out, Bool.true_and, decide_eq_decide]; omega
      clear HD
      go_wp2_with fail
      go_ret
      exact ⟨ret_bool hR.out.symm, HB.out⟩
end Go.Proofs.YtahbepajeplcmaaDoor

/- Contracts: a record's place in a book, found by halving. -/
namespace Go.Proofs.YtahbepajeplcmaaDoor
open Go.RowKit

theorem cmpR_same (a b : Rec) : (cmpR a b = 0) ↔ sameR a b = true := by
  obtain ⟨h1, h2, h3⟩ := cmp_bytes a.name b.name
  unfold cmpR orN sameR
  rw [Bool.and_eq_true, beq_iff_eq, decide_eq_true_eq]
  by_cases e : Lib.compareBytes a.name b.name = 0
  · rw [if_pos e]
    have e2 := h2.1 e
    unfold Lib.compareInt
    constructor
    · intro h
      refine ⟨e2, ?_⟩
      by_cases hs : a.sys < b.sys
      · simp [hs] at h
      · by_cases hs2 : b.sys < a.sys
        · simp [hs, hs2] at h
        · omega
    · rintro ⟨_, hs⟩
      rw [hs]; simp
  · rw [if_neg e]
    constructor
    · intro h; exact absurd h e
    · rintro ⟨hn, _⟩; exact absurd (h2.2 hn) e

theorem book_le' {xs : List Rec} (h : bookB xs = true) : xs.length ≤ 24 := by
  unfold bookB at h
  rw [Bool.and_eq_true, decide_eq_true_eq] at h
  exact h.2
/-- Whether there is a record of the same name and system. -/
def hitR (xs : List Rec) (r : Rec) : Bool := match xs[posR xs r]? with
  | some q => sameR q r
  | none => false
/-- What is known while the place is looked for. -/
def Half (xs : List Rec) (r : Rec) (lo hi : Nat) : Prop := (∀ j (hj : j < xs.length), j < lo → beforeB xs[j] r = true) ∧ (∀ j (hj : j < xs.length), hi ≤ j → beforeB xs[j] r = false)
theorem Half.up {xs : List Rec} {r : Rec} {lo hi m : Nat} (h : Half xs r lo hi) (hb : bookB xs = true) (hm : m < xs.length) (hq : beforeB xs[m] r = true) : Half xs r (m + 1) hi :=
  ⟨fun _ _ hjm => before_down hb hm (by omega) hq, h.2⟩
theorem Half.down {xs : List Rec} {r : Rec} {lo hi m : Nat} (h : Half xs r lo hi) (hb : bookB xs = true) (hm : m < xs.length) (hq : beforeB xs[m] r = false) : Half xs r lo m :=
  ⟨h.1, fun j hj hmj => by
    cases e : beforeB xs[j] r
    · rfl
    · have := before_down hb hj hmj e
      rw [hq] at this
      cases this⟩
theorem Half.pos {xs : List Rec} {r : Rec} {k : Nat} (h : Half xs r k k) (hk : k ≤ xs.length) : posR xs r = k :=
  posR_eq hk (fun j hj hjk => h.1 j hj hjk) (fun hk => h.2 k hk (Nat.le_refl _))
theorem hitR_at {xs : List Rec} {r : Rec} {k : Nat} (hp : posR xs r = k) (hk : k < xs.length) : hitR xs r = sameR xs[k] r := by
  unfold hitR; rw [hp, List.getElem?_eq_getElem hk]
theorem hitR_end {xs : List Rec} {r : Rec} {k : Nat} (hp : posR xs r = k) (hk : k = xs.length) : hitR xs r = false := by
  unfold hitR; rw [hp, List.getElem?_eq_none (by omega)]
theorem cmpR_lt {a b : Rec} {q : Bool} (h : beforeB a b = q) : decide (cmpR a b < 0) = q := by
  have := cmpR_neg a b
  cases q
  · rw [decide_eq_false_iff_not]; have := this.2 h; omega
  · rw [decide_eq_true_eq]
    rcases Int.lt_or_le (cmpR a b) 0 with h1 | h1
    · exact h1
    · rw [this.1 h1] at h; cases h

set_option maxRecDepth 100000 in
set_option maxHeartbeats 4000000 in
theorem searchRec_any (v : Value) (xs : List Rec) (r : Rec) (F : List Nat) (w : World) (hx : rcTy.row false w v xs F) (hb : bookB xs = true) :
    Calls Tryd.prog 40 #[v, rcV r, .func (.func 39) #[] #[]] w fun e w' => e = .returned (.tuple #[.int .i64 (posR xs r : Nat), .bool (hitR xs r)]) ∧ Below w.heap.size w w' := by
  have eg : ∀ args w, (callFunc 39 args).run Tryd.prog w = .ok (.enter 39 args) w := enters_of Tryd.func39 (by kernel_rfl) rfl
  obtain ⟨a, c, rfl, hx1, hx2, hg, hx3⟩ := row_rc hx
  have h24 := book_le' hb
  have hcmp := Lib.hid (fun (q : Rec) W => compareRecords_any q r W)
  replace hb := Lib.hid hb
  clear hx hg
  go_enter Tryd.func40, Tryd.ntmps40
  have S0 := Lib.hid ((Sp.start w).alloc_box #[.string (ms r.name), .int .i64 r.sys, .int .i64 r.size, .int .i64 r.extra] 38)
  go_wp2_with fail
  go_loopw [9, 10] (fun vi vj wr => ∃ lo hi : Nat, lo ≤ hi ∧ hi ≤ xs.length ∧ vi = .int .i64 lo ∧ vj = .int .i64 hi ∧ Hid (Half xs r lo hi) ∧ Hid (Sp w wr [Box w.heap.size 38 #[.string (ms r.name), .int .i64 r.sys, .int .i64 r.size, .int .i64 r.extra]])) (fun vi vj _ => (intOf vj).toNat - (intOf vi).toNat)
  case atStart => exact ⟨0, xs.length, Nat.zero_le _, Nat.le_refl _, rfl, rfl, ⟨fun _ _ h => absurd h (by omega), fun _ _ h => absurd h (by omega)⟩, S0⟩
  case round =>
    obtain ⟨lo, hi, hlh, hhi, rfl, rfl, HD, HS⟩ := hrel
    clear S0
    have HB := Lib.hid HS.out.below
    have b0 := cell_regrown (HS.out.cell (i := 0) rfl (o := 0) rfl)
    have b1 := cell_regrown (HS.out.cell (i := 0) rfl (o := 1) rfl)
    have b2 := cell_regrown (HS.out.cell (i := 0) rfl (o := 2) rfl)
    have b3 := cell_regrown (HS.out.cell (i := 0) rfl (o := 3) rfl)
    by_cases hlt : lo < hi
    · rcases hx3 with ⟨rfl, rfl⟩ | ⟨hxn, b, off, rfl, rfl, hxc⟩
      · exact absurd hhi (by simp; omega)
      have hml : (lo + hi) / 2 < xs.length := by omega
      obtain ⟨p0, p1, p2, p3⟩ := hxc ((lo + hi) / 2) hml
      have hp := HB.out.block b p0.lt
      have k0 := cell_regrown (p0.keep hp).1
      have k1 := cell_regrown (p1.keep hp).1
      have k2 := cell_regrown (p2.keep hp).1
      have k3 := cell_regrown (p3.keep hp).1
      have hc := hcmp.out xs[(lo + hi) / 2]
      clear p0 p1 p2 p3 hp hxc
      cases hq : beforeB xs[(lo + hi) / 2] r
      · have HD2 := Lib.hid (HD.out.down hb.out hml hq)
        have hlz := cmpR_lt hq
        generalize cmpR xs[(lo + hi) / 2] r = z at hc hlz
        generalize xs[(lo + hi) / 2] = q at *
        replace hc := Lib.hid hc
        clear hq HD hcmp
        go_wp2_with fail
        refine wp_region_quiet_below (by kernel_rfl) (by kernel_rfl) ?_
        repeat (any_goals (first | go_big_quiet_step ((go_at_fn 39; exact Calls.regrown_of (hc.out _)))))
        refine wpQuiet_nil ?_
        rintro w1 ⟨p, rfl⟩
        have HB2 := Lib.hid (HS.out.grow (below_regrown _ p.d p.os))
        clear HS HB hc k0 k1 k2 k3 b0 b1 b2 b3
        go_wp2_with fail
        go_roundw
        case rel => exact ⟨lo, (lo + hi) / 2, by omega, by omega, rfl, by go_num, HD2, HB2⟩
        case measure => simp [intOf]; omega
      · have HD2 := Lib.hid (HD.out.up hb.out hml hq)
        have hlz := cmpR_lt hq
        generalize cmpR xs[(lo + hi) / 2] r = z at hc hlz
        generalize xs[(lo + hi) / 2] = q at *
        replace hc := Lib.hid hc
        clear hq HD hcmp
        go_wp2_with fail
        refine wp_region_quiet_below (by kernel_rfl) (by kernel_rfl) ?_
        repeat (any_goals (first | go_big_quiet_step ((go_at_fn 39; exact Calls.regrown_of (hc.out _)))))
        refine wpQuiet_nil ?_
        rintro w1 ⟨p, rfl⟩
        have HB2 := Lib.hid (HS.out.grow (below_regrown _ p.d p.os))
        clear HS HB hc k0 k1 k2 k3 b0 b1 b2 b3
        go_wp2_with fail
        go_roundw
        case rel => exact ⟨(lo + hi) / 2 + 1, hi, by omega, by omega, by go_num, rfl, HD2, HB2⟩
        case measure => simp [intOf]; omega
    · obtain rfl : lo = hi := by omega
      have hpos := HD.out.pos hhi
      rcases Nat.lt_or_ge lo xs.length with hl | hl
      · rcases hx3 with ⟨rfl, rfl⟩ | ⟨hxn, b, off, rfl, rfl, hxc⟩
        · exact absurd hl (by simp)
        obtain ⟨p0, p1, p2, p3⟩ := hxc lo hl
        have hp := HB.out.block b p0.lt
        have k0 := cell_regrown (p0.keep hp).1
        have k1 := cell_regrown (p1.keep hp).1
        have k2 := cell_regrown (p2.keep hp).1
        have k3 := cell_regrown (p3.keep hp).1
        have hR : Hid (posR xs r = lo ∧ hitR xs r = decide (cmpR xs[lo] r = 0)) := ⟨hpos, by
          rw [hitR_at hpos hl]
          cases e : sameR xs[lo] r
          · symm; rw [decide_eq_false_iff_not, cmpR_same, e]; simp
          · symm; rw [decide_eq_true_eq, cmpR_same, e]⟩
        have hc := Lib.hid (hcmp.out xs[lo])
        have hli : (lo : Int) < xs.length := by omega
        clear p0 p1 p2 p3 hp hxc HD hpos hcmp
        generalize hz : cmpR xs[lo] r = z at hc hR
        generalize xs[lo] = q at *
        clear hz
        go_wp2_with fail
        refine wp_region_quiet_below (by kernel_rfl) (by kernel_rfl) ?_
        repeat (any_goals (first | go_big_quiet_step ((go_at_fn 39; exact Calls.regrown_of (hc.out _)))))
        refine wpQuiet_nil ?_
        rintro w1 ⟨p, rfl⟩
        have HB2 := (HS.out.grow (below_regrown _ p.d p.os)).below
        clear HS HB hc k0 k1 k2 k3 b0 b1 b2 b3
        go_wp2_with fail
        go_ret2
        exact ⟨by rw [hR.out.1, hR.out.2]; rfl, HB2⟩
      · obtain rfl : lo = xs.length := by omega
        have hR : Hid (posR xs r = xs.length ∧ hitR xs r = false) := ⟨hpos, hitR_end hpos rfl⟩
        clear HD hpos hcmp
        go_wp2_with fail
        refine wp_region_quiet_below (by kernel_rfl) (by kernel_rfl) ?_
        repeat (any_goals (first | go_big_quiet_step (fail)))
        refine wpQuiet_nil ?_
        rintro w1 ⟨p, rfl⟩
        have HB2 := (HS.out.grow (below_regrown _ p.d p.os)).below
        clear HS HB
        go_wp2_with fail
        go_ret2
        exact ⟨by rw [hR.out.1, hR.out.2]; rfl, HB2⟩
end Go.Proofs.YtahbepajeplcmaaDoor

/- append onto an own row from any slice, empty or nil let in. No program in sight. -/
namespace Go.Proofs.YtahbepajeplcmaaDoor
open Go.RowKit

/-- A slice whose cells are these; a nil or empty one has none. -/
def Src (w : World) (A : Option Addr) (m size : Nat) (news : List Value) : Prop :=
  (m = 0 ∧ news = []) ∨ ∃ ad, A = some ad ∧ news.length = m * size ∧ ∀ j u, news[j]? = some u → w.cell? (ad.add j) = some u

section
variable {P : Program} {w : World} {t ty e : TypeId} {i : TypeInfo} {z : Value} {size bytes : Nat}
theorem run_append_src (ht : P.underlying t = some (.slice e)) (hi : P.info? e = some i) (hz : i.zero = some z) (hsize : i.size = size) (hby : i.bytes = bytes) (hzs : z.cells.size = size) (hsz : 0 < size)
    (v : Value) (n : Nat) (xs : List Value) (hown : w.ownsRow 0 e size v n xs) (A : Option Addr) (m c : Nat) (news : List Value) (hsrc : Src w A m size news) (h1 : ∀ u ∈ news, u.oneCell' = true)
    (h63 : n + m ≤ maxLen) (hbytes : (n + m) * bytes ≤ 140737488355328) :
    ∃ v' w', (Builtin.append_ #[t, t] ty #[v, .slice A m c]).run P w = .ok v' w' ∧ w'.ownsRow 0 e size v' (n + m) (xs ++ news) ∧ w.grownBy w' v.ownBlock ∧ (v'.ownBlock = v.ownBlock ∨ v'.ownBlock = some w.heap.size) := by
  rcases hsrc with ⟨rfl, rfl⟩ | ⟨ad, ha, hl, hn⟩
  · cases A with
    | some ad =>
      obtain ⟨v', w', h2, h3, h4, _, h5⟩ := run_append_own_at (P := P) w 0 t ty e i z size bytes ht hi hz hsize hby hzs hsz v n xs hown ad 0 c [] (by simp) (by simp) h1 h63 hbytes (Nat.zero_le _)
      exact ⟨v', w', h2, h3, h4, h5⟩
    | none =>
      refine ⟨v, w, ?_, by simpa using hown, World.grownBy.refl w _, .inl rfl⟩
      obtain ⟨_, ⟨rfl, rfl⟩ | ⟨g, cap, cur, rfl, _, _, hn, _⟩⟩ := hown
      · simp [Builtin.append_, run_underlying ht, sizeOf, typeInfo, hi, Builtin.lenOf, Builtin.firstCells]
      · simp [Builtin.append_, run_underlying ht, sizeOf, typeInfo, hi, Builtin.lenOf, Builtin.firstCells, hn, storeCells]
  · subst ha
    obtain ⟨v', w', h2, h3, h4, _, h5⟩ := run_append_own_at (P := P) w 0 t ty e i z size bytes ht hi hz hsize hby hzs hsz v n xs hown ad m c news hl hn h1 h63 hbytes (Nat.zero_le _)
    exact ⟨v', w', h2, h3, h4, h5⟩
theorem wp_append_src {o : Oper} {a : Act} {K : Act → World → Prop} {Q : Exit → Act → World → Prop} (s x : Operand)
    (ho : o.op = .call { callee := .builtin .append, args := #[s, x], argTypes := #[t, t] })
    (ht : P.underlying t = some (.slice e)) (hi : P.info? e = some i) (hz : i.zero = some z) (hsize : i.size = size) (hby : i.bytes = bytes) (hzs : z.cells.size = size) (hsz : 0 < size)
    (v : Value) (n : Nat) (xs : List Value) (hs : a.eval s = v) (hown : w.ownsRow 0 e size v n xs) (A : Option Addr) (m c : Nat) (news : List Value) (hx : a.eval x = .slice A m c) (hsrc : Src w A m size news) (h1 : ∀ u ∈ news, u.oneCell' = true)
    (h63 : n + m ≤ maxLen) (hbytes : (n + m) * bytes ≤ 140737488355328)
    (h : ∀ v' w', w'.ownsRow 0 e size v' (n + m) (xs ++ news) → w.grownBy w' v.ownBlock → (v'.ownBlock = v.ownBlock ∨ v'.ownBlock = some w.heap.size) → K (a.put o.dst v') w') : o.wp P a w K Q := by
  obtain ⟨v', w', hr, h2, h3, h4⟩ := run_append_src (P := P) (w := w) (ty := o.type) ht hi hz hsize hby hzs hsz v n xs hown A m c news hsrc h1 h63 hbytes
  unfold Oper.wp execOp
  simp only [ho, resolve, invoke, builtin, Sem.run_bind, Sem.run_pure, Result.andThen_ok, List.map_toArray, List.map_cons, List.map_nil, hs, hx, hr]
  exact h v' w' h2 h3 h4
theorem wpList_append_src {ops : Array Oper} {rest : List Oper} {o : Oper} {a : Act} {Q : Exit → Act → World → Prop} (hgd : o.guard = none) (s x : Operand)
    (ho : o.op = .call { callee := .builtin .append, args := #[s, x], argTypes := #[t, t] })
    (ht : P.underlying t = some (.slice e)) (hi : P.info? e = some i) (hz : i.zero = some z) (hsize : i.size = size) (hby : i.bytes = bytes) (hzs : z.cells.size = size) (hsz : 0 < size)
    (v : Value) (n : Nat) (xs : List Value) (hs : a.eval s = v) (hown : w.ownsRow 0 e size v n xs) (A : Option Addr) (m c : Nat) (news : List Value) (hx : a.eval x = .slice A m c) (hsrc : Src w A m size news) (h1 : ∀ u ∈ news, u.oneCell' = true)
    (h63 : n + m ≤ maxLen) (hbytes : (n + m) * bytes ≤ 140737488355328)
    (h : ∀ v' w', w'.ownsRow 0 e size v' (n + m) (xs ++ news) → w.grownBy w' v.ownBlock → (v'.ownBlock = v.ownBlock ∨ v'.ownBlock = some w.heap.size) → wpList P ops Q rest (a.put o.dst v') w') : wpList P ops Q (o :: rest) a w :=
  wpList_plain hgd fun _ hK => wp_append_src s x ho ht hi hz hsize hby hzs hsz v n xs hs hown A m c news hx hsrc h1 h63 hbytes fun v' w' h2 h3 h4 => hK _ _ (h v' w' h2 h3 h4)
theorem step_append_src {ops : Array Oper} {o : Oper} {a : Act} {K : Act → World → Prop} {Q : Exit → Act → World → Prop} {E : Prop} (hgd : o.guard = none) (s x : Operand)
    (ho : o.op = .call { callee := .builtin .append, args := #[s, x], argTypes := #[t, t] })
    (ht : P.underlying t = some (.slice e)) (hi : P.info? e = some i) (hz : i.zero = some z) (hsize : i.size = size) (hby : i.bytes = bytes) (hzs : z.cells.size = size) (hsz : 0 < size)
    (v : Value) (n : Nat) (xs : List Value) (hs : a.eval s = v) (hown : w.ownsRow 0 e size v n xs) (A : Option Addr) (m c : Nat) (news : List Value) (hx : a.eval x = .slice A m c) (hsrc : Src w A m size news) (h1 : ∀ u ∈ news, u.oneCell' = true)
    (h63 : n + m ≤ maxLen) (hbytes : (n + m) * bytes ≤ 140737488355328)
    (h : ∀ v' w', w'.ownsRow 0 e size v' (n + m) (xs ++ news) → w.grownBy w' v.ownBlock → (v'.ownBlock = v.ownBlock ∨ v'.ownBlock = some w.heap.size) → K (a.put o.dst v') w') :
    if Region.wanted o (yielded ops a.tmps) = true then Oper.wp P o a w K Q else E := by
  have hw : Region.wanted o (yielded ops a.tmps) = true := by simp [Region.wanted, hgd]
  rw [if_pos hw]
  exact wp_append_src s x ho ht hi hz hsize hby hzs hsz v n xs hs hown A m c news hx hsrc h1 h63 hbytes h
end

theorem add_none (b off j : Nat) : (⟨b, off, none⟩ : Addr).add j = ⟨b, off + j, none⟩ := by unfold Addr.add; split <;> simp_all
theorem Src.one {w : World} {b : Nat} {x : Value} (h : w.cell? ⟨b, 0, none⟩ = some x) : Src w (some ⟨b, 0, none⟩) 1 1 [x] :=
  .inr ⟨_, rfl, rfl, fun j u hj => by
    match j, hj with
    | 0, hj => simp at hj; subst hj; rw [add_none]; exact h⟩
theorem Src.keep {w w' : World} {A : Option Addr} {m size : Nat} {news : List Value} (h : Src w A m size news) (hk : ∀ a, A = some a → ∀ o u, w.cell? (a.add o) = some u → w'.cell? (a.add o) = some u) : Src w' A m size news := by
  rcases h with h | ⟨ad, rfl, h1, h2⟩
  · exact .inl h
  · exact .inr ⟨ad, rfl, h1, fun j u hj => hk _ rfl j u (h2 j u hj)⟩
theorem Src.grow {w w' : World} {A : Option Addr} {m size : Nat} {news : List Value} (h : Src w A m size news) (hb : Below w.heap.size w w') : Src w' A m size news :=
  h.keep fun _ _ _ _ hc => (hb.cell (World.block_lt_of_cell? _ _ hc)).trans hc
/-- A row as a source. -/
theorem row_src {α : Type} {T : Ty α} {wr : Bool} {w : World} {v : Value} {xs : List α} {F : List Nat} (h : T.row wr w v xs F) : ∃ A c cs G, v = .slice A xs.length c ∧ T.all wr w cs xs G ∧ Src w A xs.length T.size cs ∧ (∀ b ∈ G, b ∈ F) := by
  obtain ⟨a, cap, cs, G, rfl, h1, h2, hall, ⟨rfl, rfl⟩ | ⟨hs, hne, b, off, rfl, rfl, hc⟩⟩ := h
  · obtain ⟨rfl, rfl⟩ := hall
    exact ⟨a, cap, [], [], rfl, ⟨rfl, rfl⟩, .inl ⟨rfl, rfl⟩, by simp⟩
  · refine ⟨_, cap, cs, G, rfl, hall, .inr ⟨_, rfl, Ty.all_len hall, fun j u hj => ?_⟩, fun x hx => List.mem_cons_of_mem _ hx⟩
    have hjl := (List.getElem?_eq_some_iff.1 hj).1
    rw [add_none, (hc j hjl).1, ← List.getElem?_eq_getElem hjl, hj]
theorem row_src_int {wr : Bool} {w : World} {v : Value} {xs : List Int} {F : List Nat} (h : Ty.int.row wr w v xs F) : ∃ A c, v = .slice A xs.length c ∧ Src w A xs.length 1 (xs.map (.int .i64)) := by
  obtain ⟨A, c, cs, G, rfl, hall, hs, _⟩ := row_src h
  obtain ⟨rfl, _, _⟩ := Ty.all_int_inv hall
  exact ⟨A, c, rfl, hs⟩

/-- Where a slice from k on lies. -/
def cutA (A : Option Addr) (cap k size : Nat) : Option Addr := if cap = k then A else A.map (·.add (k * size))
section
variable {P : Program} {T e : TypeId} {i : TypeInfo} {size : Nat} {ρ : Operand → Value} {o : Oper} {x y : Operand} {A : Option Addr} {len cap k : Nat} {w : World}
theorem exec_slice_to (ho : o.op = .slice T x none (some y) none) (hx : ρ x = .slice A len cap) (hy : ρ y = .int .i64 k) (hT : P.underlying T = some (.slice e)) (hi : P.info? e = some i) (hk : k ≤ cap) :
    (execOp ρ o).run P w = .ok (.value (.slice A k cap)) w := by
  have hb : (Instr.sliceBounds true len cap none (some (.int .i64 k)) none).run P w = .ok (0, k, cap) w := by
    simp [Instr.sliceBounds, run_sliceBound (P := P) w .i64 (k : Int) cap .sliceAcap (by omega) (by omega)]
  have hA : (if cap = 0 then A else A.map (·.add 0)) = A := by
    split
    · rfl
    · cases A <;> simp [Addr.add]
  unfold execOp
  simp [ho, hx, hy, Instr.sliceAt, run_underlying hT, Instr.slice, hb, sizeOf, typeInfo, hi, hA]
theorem exec_slice_from (ho : o.op = .slice T x (some y) none none) (hx : ρ x = .slice A len cap) (hy : ρ y = .int .i64 k) (hT : P.underlying T = some (.slice e)) (hi : P.info? e = some i) (hs : i.size = size) (hk : k ≤ len) :
    (execOp ρ o).run P w = .ok (.value (.slice (cutA A cap k size) (len - k) (cap - k))) w := by
  have hb : (Instr.sliceBounds true len cap (some (.int .i64 k)) none none).run P w = .ok (k, len, cap) w := by
    simp [Instr.sliceBounds, run_sliceBound (P := P) w .i64 (k : Int) len .sliceB (by omega) (by omega)]
  subst hs
  unfold execOp cutA
  simp [ho, hx, hy, Instr.sliceAt, run_underlying hT, Instr.slice, hb, sizeOf, typeInfo, hi]
end
theorem Src.to {w : World} {A : Option Addr} {m size k : Nat} {news : List Value} (h : Src w A m size news) (hk : k ≤ m) : Src w A k size (news.take (k * size)) := by
  rcases h with ⟨rfl, rfl⟩ | ⟨ad, rfl, h1, h2⟩
  · exact .inl ⟨by omega, by simp⟩
  · refine .inr ⟨ad, rfl, ?_, fun j u hj => ?_⟩
    · rw [List.length_take, h1]
      have := Nat.mul_le_mul_right size hk
      omega
    · rw [List.getElem?_take] at hj
      split at hj
      · exact h2 j u hj
      · cases hj
theorem Src.from {w : World} {b off cap : Nat} {m size k : Nat} {news : List Value} (h : Src w (some ⟨b, off, none⟩) m size news) (hk : k ≤ m) (hm : m ≤ cap) : Src w (cutA (some ⟨b, off, none⟩) cap k size) (m - k) size (news.drop (k * size)) := by
  rcases h with ⟨rfl, rfl⟩ | ⟨ad, e, h1, h2⟩
  · exact .inl ⟨by omega, by simp⟩
  · cases e
    unfold cutA
    by_cases hc : cap = k
    · obtain rfl : m = k := by omega
      exact .inl ⟨by omega, by rw [List.drop_eq_nil_of_le (by omega)]⟩
    · rw [if_neg hc]
      refine .inr ⟨_, rfl, by rw [List.length_drop, h1, Nat.sub_mul], fun j u hj => ?_⟩
      rw [List.getElem?_drop] at hj
      have := h2 _ u hj
      rw [add_none] at this
      show w.cell? (((⟨b, off, none⟩ : Addr).add (k * size)).add j) = some u
      rw [add_none, add_none, Nat.add_assoc]
      exact this
theorem Src.from_nil {w : World} {m cap size k : Nat} {news : List Value} (h : Src w none m size news) (hk : k ≤ m) : Src w (cutA none cap k size) (m - k) size (news.drop (k * size)) := by
  rcases h with ⟨rfl, rfl⟩ | ⟨ad, e, _⟩
  · exact .inl ⟨by omega, by simp⟩
  · cases e
end Go.Proofs.YtahbepajeplcmaaDoor

/- copy and append-of-make at rows of elements of several cells; a row with an element put in. No program in sight. -/
namespace Go.Proofs.YtahbepajeplcmaaDoor
open Go.RowKit

section
variable {P : Program}
theorem run_copy_box (w : World) (dT sT ty elem : TypeId) (k g o dLen dCap : Nat) (a : Addr) (sLen sCap : Nat) (cur : Array Value) (t : TypeId) (cs : List Value)
    (hu : P.underlying dT = some (.slice elem)) (hs : (P.info? elem).map (·.size) = some k)
    (hg : w.heap[g]? = some (.cells cur t (0, 0))) (hn : cs.length = Nat.min sLen dLen * k)
    (hsrc : ∀ j v, cs[j]? = some v → w.cell? (a.add j) = some v) (hfit : o + cs.length ≤ cur.size) (h1 : ∀ v ∈ cs, v.oneCell' = true) :
    (Builtin.copy_ #[dT, sT] ty #[.slice (some ⟨g, o, none⟩) dLen dCap, .slice (some a) sLen sCap]).run P w =
      .ok (goInt (Nat.min sLen dLen)) (w.setRow g (cur.toList.take o ++ cs ++ cur.toList.drop (o + cs.length)).toArray) := by
  have hl := run_loadCells_list (P := P) w a cs hsrc
  have hst := run_storeCells_at P g o t cs 0 cur w hg (by simpa using hfit) h1
  cases hq : P.info? elem with
  | none => simp [hq] at hs
  | some i =>
    have hi : i.size = k := by simpa [hq] using hs
    simp [Builtin.copy_, run_underlying hu, Builtin.lenOf, Builtin.firstCells, sizeOf, typeInfo, hq, hi, ← hn, hl, hst]

theorem setRow_size (w : World) (g : Nat) (cs : Array Value) : (w.setRow g cs).heap.size = w.heap.size := by simp [World.setRow]
theorem setRow_drew (w : World) (g : Nat) (cs : Array Value) : (w.setRow g cs).drew = w.drew.setRow g cs := rfl

/-- Where the room does: the elements behind go up, the new one goes in. -/
theorem put_in {cur cs news X Y : List Value} {n i k c m : Nat} (hc : cur.length = c * k) (hn : n + m ≤ c) (hi : i ≤ n) (ht : cur.take (n * k) = cs) (hl : news.length = m * k)
    (hX : X = cur.take ((i + m) * k) ++ cs.drop (i * k) ++ cur.drop ((i + m) * k + (cs.drop (i * k)).length)) (hY : Y = X.take (i * k) ++ news ++ X.drop (i * k + news.length)) :
    X.length = c * k ∧ Y.length = c * k ∧ Y.take ((n + m) * k) = cs.take (i * k) ++ news ++ cs.drop (i * k) := by
  have hnk : (n + m) * k ≤ c * k := Nat.mul_le_mul_right k hn
  have hik : i * k ≤ n * k := Nat.mul_le_mul_right k hi
  have e1 : (n + m) * k = n * k + m * k := by rw [Nat.add_mul]
  have e2 : (i + m) * k = i * k + m * k := by rw [Nat.add_mul]
  have hcs : cs.length = n * k := by rw [← ht, List.length_take]; omega
  have hd : (cs.drop (i * k)).length = n * k - i * k := by rw [List.length_drop, hcs]
  have hXl : X.length = c * k := by
    rw [hX, List.length_append, List.length_append, List.length_take, hd, List.length_drop, hc, e2]; omega
  have hXt : X.take (i * k) = cs.take (i * k) := by
    rw [hX, List.append_assoc, List.take_append_of_le_length (by rw [List.length_take, hc, e2]; omega), List.take_take, Nat.min_eq_left (by omega), ← ht, List.take_take, Nat.min_eq_left hik]
  have hXd : X.drop (i * k + news.length) = cs.drop (i * k) ++ cur.drop ((i + m) * k + (cs.drop (i * k)).length) := by
    rw [hX, List.append_assoc, List.drop_append_of_le_length (by rw [List.length_take, hc, e2, hl]; omega)]
    rw [List.drop_eq_nil_of_le (by rw [List.length_take, hc, e2, hl]; omega), List.nil_append]
  refine ⟨hXl, ?_, ?_⟩
  · rw [hY, List.length_append, List.length_append, List.length_take, List.length_drop, hXl, hl]; omega
  · rw [hY, hXt, hXd, ← List.append_assoc]
    have hl3 : (cs.take (i * k) ++ news ++ cs.drop (i * k)).length = (n + m) * k := by
      rw [List.length_append, List.length_append, List.length_take, hcs, hl, hd, e1]; omega
    rw [List.take_append_of_le_length (by omega), List.take_of_length_le (by omega)]
/-- Where there is no room: a new row is filled. -/
theorem put_new {row cs news X Y : List Value} {n i k G m : Nat} (hG : n + m ≤ G) (hi : i ≤ n) (hcs : cs.length = n * k) (hl : news.length = m * k) (hr : row.length = G * k) (ht : row.take (i * k) = cs.take (i * k))
    (hX : X = row.take (i * k) ++ news ++ row.drop (i * k + news.length)) (hY : Y = X.take ((i + m) * k) ++ cs.drop (i * k) ++ X.drop ((i + m) * k + (cs.drop (i * k)).length)) :
    X.length = G * k ∧ Y.length = G * k ∧ Y.take ((n + m) * k) = cs.take (i * k) ++ news ++ cs.drop (i * k) := by
  have hnk : (n + m) * k ≤ G * k := Nat.mul_le_mul_right k hG
  have hik : i * k ≤ n * k := Nat.mul_le_mul_right k hi
  have e1 : (n + m) * k = n * k + m * k := by rw [Nat.add_mul]
  have e2 : (i + m) * k = i * k + m * k := by rw [Nat.add_mul]
  have hd : (cs.drop (i * k)).length = n * k - i * k := by rw [List.length_drop, hcs]
  have hXl : X.length = G * k := by
    rw [hX, List.length_append, List.length_append, List.length_take, List.length_drop, hr, hl]; omega
  have h2 : (row.take (i * k) ++ news).length = (i + m) * k := by rw [List.length_append, List.length_take, hr, hl, e2]; omega
  have hXt : X.take ((i + m) * k) = cs.take (i * k) ++ news := by
    rw [hX, List.take_append_of_le_length (by omega), List.take_of_length_le (by omega), ht]
  refine ⟨hXl, ?_, ?_⟩
  · rw [hY, List.length_append, List.length_append, List.length_take, hd, List.length_drop, hXl, e2]; omega
  · have hl3 : (cs.take (i * k) ++ news ++ cs.drop (i * k)).length = (n + m) * k := by
      rw [List.length_append, List.length_append, List.length_take, hcs, hl, hd, e1]; omega
    rw [hY, hXt, List.take_append_of_le_length (by omega), List.take_of_length_le (by omega)]
end

/-- An own row seen as a block. -/
theorem owns_block {w : World} {e : TypeId} {k n c : Nat} {A : Option Addr} {cs : List Value} (h : w.ownsRow 0 e k (.slice A n c) n cs) (hn : 0 < n) :
    ∃ g cur, A = some ⟨g, 0, none⟩ ∧ w.heap[g]? = some (.cells cur e (0, 0)) ∧ n ≤ c ∧ c ≤ maxLen ∧ cur.toList.length = c * k ∧ cur.toList.take (n * k) = cs ∧ cs.length = n * k := by
  obtain ⟨hl, ⟨_, h0⟩ | ⟨g, cap, cur, he, _, hh, hn, hm, hcs, ht⟩⟩ := h
  · omega
  · simp only [Value.slice.injEq] at he
    obtain ⟨rfl, _, rfl⟩ := he
    exact ⟨g, cur, rfl, hh, hn, hm, by simpa using hcs, ht, hl⟩
theorem owns_mk {w : World} {e : TypeId} {k n c g : Nat} {cur cs : List Value} (hh : w.heap[g]? = some (.cells cur.toArray e (0, 0))) (hn : n ≤ c) (hm : c ≤ maxLen) (hc : cur.length = c * k) (ht : cur.take (n * k) = cs) :
    w.ownsRow 0 e k (.slice (some ⟨g, 0, none⟩) n c) n cs :=
  ⟨by rw [← ht, List.length_take, hc]; exact Nat.min_eq_left (Nat.mul_le_mul_right k hn), .inr ⟨g, c, cur.toArray, rfl, Nat.zero_le _, hh, hn, hm, by simpa using hc, by simpa using ht⟩⟩
end Go.Proofs.YtahbepajeplcmaaDoor

/- Contracts: a record put into a row of records. -/
namespace Go.Proofs.YtahbepajeplcmaaDoor
open Go.RowKit

/-- What the row is behind it: in its own block or in a new one. -/
def PutPost (w : World) (v : Value) (n : Nat) (cs : List Value) (e : Ending) (w' : World) : Prop :=
  ∃ v', e = .returned v' ∧ w'.ownsRow 0 38 4 v' n cs ∧ w.grownBy w' v.ownBlock ∧ (v'.ownBlock = v.ownBlock ∨ v'.ownBlock = some w.heap.size)

set_option maxRecDepth 100000 in
set_option maxHeartbeats 4000000 in
theorem insertEnd_any (A : Option Addr) (n c vb m vc : Nat) (cs news : List Value) (w : World) (hm : 0 < m) (hown : w.ownsRow 0 38 4 (.slice A n c) n cs) (hsrc : Src w (some ⟨vb, 0, none⟩) m 4 news) (h1 : ∀ u ∈ news, u.oneCell' = true) (hn : n + m ≤ 1000) :
    Calls Tryd.prog 41 #[.slice A n c, .int .i64 n, .slice (some ⟨vb, 0, none⟩) m vc] w (PutPost w (.slice A n c) (n + m) (cs ++ news)) := by
  obtain ⟨i0, hi, hz0, hz1, hz2⟩ := info_parts infoRc
  have hnc : n ≤ c ∧ c ≤ 9223372036854775807 := by
    obtain ⟨_, ⟨e, h0⟩ | ⟨g, cap, cur, e, _, _, h2, h3, _⟩⟩ := hown
    · simp only [Value.slice.injEq] at e; omega
    · simp only [Value.slice.injEq] at e; unfold maxLen at h3; omega
  obtain ⟨hnc, hc63⟩ := hnc
  have hz3 : ¬ ((m : Int) = 0) := by omega
  replace hown := Lib.hid hown
  by_cases hcn : c = n
  · subst hcn
    go_enter Tryd.func41, Tryd.ntmps41
    go_wp2_with (at_builtin; refine wpList_append_src rfl _ _ rfl Tryd.underlying24 hi hz0 hz1 hz2 rfl (by decide) _ c _ rfl hown.out (some ⟨vb, 0, none⟩) m vc news rfl hsrc h1 ?c3 ?c4 ?_)
    case c3 => unfold maxLen; omega
    case c4 => omega
    intro vY wY hownY hgY hatY
    have hf := Lib.hid (show PutPost w (.slice A c c) (c + m) (cs ++ news) (.returned vY) wY from ⟨vY, rfl, hownY, hgY, hatY⟩)
    obtain ⟨aY, cY, rfl⟩ := owns_form hownY
    clear hownY hgY hatY hown
    go_wp2_with fail
    go_ret
    exact hf.out
  · go_enter Tryd.func41, Tryd.ntmps41
    go_wp2_with (at_builtin; refine wpList_append_src rfl _ _ rfl Tryd.underlying24 hi hz0 hz1 hz2 rfl (by decide) _ n _ rfl hown.out (some ⟨vb, 0, none⟩) m vc news rfl hsrc h1 ?c3 ?c4 ?_)
    case c3 => unfold maxLen; omega
    case c4 => omega
    intro vY wY hownY hgY hatY
    have hf := Lib.hid (show PutPost w (.slice A n c) (n + m) (cs ++ news) (.returned vY) wY from ⟨vY, rfl, hownY, hgY, hatY⟩)
    obtain ⟨aY, cY, rfl⟩ := owns_form hownY
    clear hownY hgY hatY hown
    go_wp2_with fail
    go_ret
    exact hf.out

set_option maxRecDepth 100000 in
set_option maxHeartbeats 4000000 in
theorem insertRoom_any (g n c i vb m vc : Nat) (cs news cur : List Value) (t : TypeId) (w : World) (hi' : i < n) (hm : 0 < m) (hroom : n + m ≤ c) (hc63 : c ≤ 9223372036854775807) (hvb : vb ≠ g) (hn : n + m ≤ 1000)
    (hg : w.heap[g]? = some (.cells cur.toArray 38 (0, 0))) (hcl : cur.length = c * 4) (hcs : cur.take (n * 4) = cs) (hv : w.heap[vb]? = some (.cells news.toArray t (0, 0))) (hvl : news.length = m * 4) (h1 : ∀ u ∈ news, u.oneCell' = true) (h2 : ∀ u ∈ cs, u.oneCell' = true) :
    Calls Tryd.prog 41 #[.slice (some ⟨g, 0, none⟩) n c, .int .i64 i, .slice (some ⟨vb, 0, none⟩) m vc] w (PutPost w (.slice (some ⟨g, 0, none⟩) n c) (n + m) (cs.take (i * 4) ++ news ++ cs.drop (i * 4))) := by
  obtain ⟨i0, hi, hz0, hz1, hz2⟩ := info_parts infoRc
  have hsz : (Tryd.prog.info? 38).map (·.size) = some 4 := by rw [hi]; simp [hz1]
  have hz3 : ¬ ((m : Int) = 0) := by omega
  have hz4 : ¬ ((i : Int) = (n : Int)) := by omega
  have hsa : w.shape? vb = some (t, news.length) := by simp [World.shape?, hv]
  have hsb : w.shape? g = some (38, cur.length) := by simp [World.shape?, hg]
  have hov : ∀ lb cb, (callFunc 55 #[.slice (some ⟨vb, 0, none⟩) m vc, .slice (some ⟨g, (i + m) * 4, none⟩) lb cb]).run Tryd.prog w = .ok (.value (.bool false)) w := fun lb cb => by
    rw [run_callFunc_extern Tryd.func55 (by kernel_rfl) (by kernel_rfl) (by kernel_rfl) (e := Extern.SlicesOverlaps.overlaps #[24, 24] #[4]) (by kernel_rfl),
      Lib.run_overlaps_apart w 24 4 38 Tryd.underlying24 4 (fun w => by simp [sizeOf, typeInfo, hi, hz1]) ⟨vb, 0, none⟩ ⟨g, (i + m) * 4, none⟩ m vc lb cb hvb t 38 news.length cur.length hsa hsb (by omega) (by simp [World.frozen?, hv]) (by simp [World.frozen?, hv])]
    rfl
  have hcsl : cs.length = n * 4 := by rw [← hcs, List.length_take]; omega
  have hdl : (cs.drop (i * 4)).length = n * 4 - i * 4 := by rw [List.length_drop, hcsl]
  have hw1 : IntKind.i64.wrap ((i : Int) + (m : Int)) = (i : Int) + (m : Int) := by rw [IntKind.wrap_i64]; omega
  have hb1 : (0 : Int) ≤ (i : Int) + (m : Int) := by omega
  have hin : i ≤ n := by omega
  have htn : ((i : Int) + (m : Int)).toNat = i + m := by omega
  have hb2 : ¬ (c = i + m) := by omega
  have hb3 : (i : Int) ≤ (n : Int) + (m : Int) := by omega
  have hb4 : ¬ (c = i) := by omega
  obtain ⟨X, hX⟩ : ∃ X, X = cur.take ((i + m) * 4) ++ cs.drop (i * 4) ++ cur.drop ((i + m) * 4 + (cs.drop (i * 4)).length) := ⟨_, rfl⟩
  obtain ⟨Y, hY⟩ : ∃ Y, Y = X.take (i * 4) ++ news ++ X.drop (i * 4 + news.length) := ⟨_, rfl⟩
  obtain ⟨hXl, hYl, hYt⟩ := put_in hcl hroom hin hcs hvl hX hY
  have hcp1 : ∀ ty dc sc, (Builtin.copy_ #[24, 24] ty #[.slice (some ⟨g, (i + m) * 4, none⟩) (n + m - (i + m)) dc, .slice (some ⟨g, i * 4, none⟩) (n + m - i) sc]).run Tryd.prog w.drew = .ok (goInt (Nat.min (n + m - i) (n + m - (i + m)))) (w.drew.setRow g X.toArray) := fun ty dc sc => by
    have := run_copy_box (P := Tryd.prog) w.drew 24 24 ty 38 4 g ((i + m) * 4) (n + m - (i + m)) dc ⟨g, i * 4, none⟩ (n + m - i) sc cur.toArray 38 (cs.drop (i * 4)) Tryd.underlying24 hsz hg
      (by rw [hdl]; simp only [Nat.min_def]; split <;> omega)
      (fun j v hj => by
        rw [add_none, List.getElem?_drop] at *
        rw [← hcs, List.getElem?_take] at hj
        split at hj
        · show w.cell? _ = _
          simp [World.cell?, hg, hj]
        · cases hj)
      (by rw [hdl, List.size_toArray]; omega) (fun u hu => h2 u (List.mem_of_mem_drop hu))
    rw [hX]
    exact this
  obtain ⟨W1, hW1⟩ : ∃ W1, W1 = w.drew.setRow g X.toArray := ⟨_, rfl⟩
  have hg1 : W1.heap[g]? = some (.cells X.toArray 38 (0, 0)) := by rw [hW1]; exact setRow_heap w.drew g _ _ 38 _ hg
  have hv1 : W1.heap[vb]? = some (.cells news.toArray t (0, 0)) := by rw [hW1, setRow_other w.drew g vb _ hvb]; exact hv
  have hcp2 : ∀ ty dc, (Builtin.copy_ #[24, 24] ty #[.slice (some ⟨g, i * 4, none⟩) (n + m - i) dc, .slice (some ⟨vb, 0, none⟩) m vc]).run Tryd.prog W1 = .ok (goInt (Nat.min m (n + m - i))) (W1.setRow g Y.toArray) := fun ty dc => by
    have := run_copy_box (P := Tryd.prog) W1 24 24 ty 38 4 g (i * 4) (n + m - i) dc ⟨vb, 0, none⟩ m vc X.toArray 38 news Tryd.underlying24 hsz hg1
      (by rw [hvl]; simp only [Nat.min_def]; split <;> omega)
      (fun j v hj => by
        rw [add_none]
        simp [World.cell?, hv1, hj])
      (by rw [List.size_toArray, hvl, hXl]; omega) h1
    rw [hY]
    exact this
  have hf : Hid (PutPost w (.slice (some ⟨g, 0, none⟩) n c) (n + m) (cs.take (i * 4) ++ news ++ cs.drop (i * 4)) (.returned (.slice (some ⟨g, 0, none⟩) (n + m) c)) (W1.setRow g Y.toArray)) := by
    refine ⟨_, rfl, owns_mk (setRow_heap W1 g _ _ 38 _ hg1) hroom (by unfold maxLen; omega) hYl hYt, ?_, .inl rfl⟩
    subst hW1
    exact ⟨rfl, rfl, rfl, by rw [setRow_size, setRow_size]; exact Nat.le_refl _, fun k hk hkg => by
      have hkg' : k ≠ g := fun e => hkg (by rw [e]; rfl)
      rw [setRow_other _ g k _ hkg', setRow_other _ g k _ hkg']; rfl⟩
  rw [← hW1] at hcp1
  clear hX hY hYt hYl hXl hcsl hdl hg hv hg1 hv1 hsa hsb hcs hcl hW1
  go_enter Tryd.func41, Tryd.ntmps41
  go_wp2_with (simp only [hov])
  go_region_law (refine step_copy_runI rfl _ _ 24 24 rfl _ _ (by simp [Act.eval, Act.put]) (by simp [Act.eval, Act.put]) (hcp1 _ _ _) ?_)
  go_wp2_with (at_builtin; refine wpList_copy_runI _ rfl _ _ 24 24 rfl _ _ rfl rfl (hcp2 _ _) ?_)
  go_ret
  exact hf.out

set_option maxRecDepth 100000 in
set_option maxHeartbeats 4000000 in
theorem insertGrow_any (g n c i vb m vc : Nat) (cs news cur : List Value) (t : TypeId) (w : World) (hi' : i < n) (hm : 0 < m) (hnc : n ≤ c) (hroom : c < n + m) (hn : n + m ≤ 1000)
    (hg : w.heap[g]? = some (.cells cur.toArray 38 (0, 0))) (hcl : cur.length = c * 4) (hcs : cur.take (n * 4) = cs) (hv : w.heap[vb]? = some (.cells news.toArray t (0, 0))) (hvl : news.length = m * 4) (h1 : ∀ u ∈ news, u.oneCell' = true) (h2 : ∀ u ∈ cs, u.oneCell' = true) :
    Calls Tryd.prog 41 #[.slice (some ⟨g, 0, none⟩) n c, .int .i64 i, .slice (some ⟨vb, 0, none⟩) m vc] w (PutPost w (.slice (some ⟨g, 0, none⟩) n c) (n + m) (cs.take (i * 4) ++ news ++ cs.drop (i * 4))) := by
  obtain ⟨i0, hi, hz0, hz1, hz2⟩ := info_parts infoRc
  have hsz : (Tryd.prog.info? 38).map (·.size) = some 4 := by rw [hi]; simp [hz1]
  have hz3 : ¬ ((m : Int) = 0) := by omega
  have hz4 : ¬ ((i : Int) = (n : Int)) := by omega
  have hz5 : (c : Int) < (n : Int) + (m : Int) := by omega
  have hbw : g < w.heap.size := by
    rcases Nat.lt_or_ge g w.heap.size with h | h
    · exact h
    · rw [Array.getElem?_eq_none h] at hg; cases hg
  have hvw : vb < w.heap.size := by
    rcases Nat.lt_or_ge vb w.heap.size with h | h
    · exact h
    · rw [Array.getElem?_eq_none h] at hv; cases hv
  have hcsl : cs.length = n * 4 := by rw [← hcs, List.length_take]; omega
  have hdl : (cs.drop (i * 4)).length = n * 4 - i * 4 := by rw [List.length_drop, hcsl]
  have hin : i ≤ n := by omega
  have hkk : (n : Int) + (m : Int) - (i : Int) = ((n + m - i : Nat) : Int) := by omega
  have hik : i + (n + m - i) = n + m := by omega
  have hcell : ∀ (W : World), W.heap[g]? = some (.cells cur.toArray 38 (0, 0)) → ∀ j u, cs[j]? = some u → W.cell? ⟨g, j, none⟩ = some u := fun W hW j u hj => by
    rw [← hcs, List.getElem?_take] at hj
    split at hj
    · simp [World.cell?, hW, hj]
    · cases hj
  have hold : (Builtin.firstCells i0.size i (.slice (some ⟨g, 0, none⟩) i c)).run Tryd.prog w.drew = .ok (cs.take (i * 4)).toArray w.drew := by
    rw [hz1]
    exact run_firstCells_some w.drew 4 i ⟨g, 0, none⟩ i c (cs.take (i * 4)) (by rw [List.length_take]; omega) (fun j v hj => by
      rw [add_none, Nat.zero_add]
      rw [List.getElem?_take] at hj
      split at hj
      · exact hcell w.drew hg j v hj
      · cases hj)
  obtain ⟨Z, hZ⟩ : ∃ Z : Array Value, Z = (Value.agg #[.string ByteArray.empty, .int .i64 0, .int .i64 0, .int .i64 0]).cells := ⟨_, rfl⟩
  have hZs : Z.size = 4 := by rw [hZ]; rfl
  obtain ⟨G, hG⟩ : ∃ G, G = grownCap w (n + m) c 38 := ⟨_, rfl⟩
  obtain ⟨ROW, hROW⟩ : ∃ ROW : Array Value, ROW = (cs.take (i * 4)).toArray ++ Builtin.zeroCells Z (n + m - i) ++ Builtin.zeroCells Z (G - (n + m)) := ⟨_, rfl⟩
  have hGn : n + m ≤ G := by rw [hG]; exact grownCap_ge w _ _ _
  have hG63 : G ≤ 9223372036854775807 := by
    have := grownCap_le_maxLen w (n + m) c 38 (by unfold maxLen; omega)
    rw [← hG] at this
    unfold maxLen at this
    omega
  have hRs : ROW.toList.length = G * 4 := by
    rw [hROW]
    simp [Builtin.zeroCells, hZs, hcsl]
    omega
  have hRt : ROW.toList.take (i * 4) = cs.take (i * 4) := by
    rw [hROW]
    simp only [Array.toList_append, List.append_assoc]
    rw [List.take_append_of_le_length (by rw [List.length_take]; omega), List.take_of_length_le (by rw [List.length_take]; omega)]
  have hrz : ∀ ty, (Builtin.append_ #[24, 3] ty #[.slice (some ⟨g, 0, none⟩) i c, .int .i64 ((n : Int) + (m : Int) - (i : Int))]).run Tryd.prog w =
      .ok (.slice (some ⟨w.heap.size, 0, none⟩) (n + m) G) (w.drew.alloc (.cells ROW 38)) := fun ty => by
    have h := Lib.run_append_grow_zeros w 24 3 ty 38 i0 _ .i64 .i64 Tryd.underlying24 Tryd.underlying3 hi hz0 (some ⟨g, 0, none⟩) i c (cs.take (i * 4)) hold (n + m - i) (by omega) (by omega) (by omega) (by omega) (by rw [hz2]; omega) (by rw [hz2, hik]; exact growslice_fits hroom (by omega))
    rw [hik] at h
    rw [hkk, hROW, hZ, hG]
    exact h
  obtain ⟨X, hX⟩ : ∃ X, X = ROW.toList.take (i * 4) ++ news ++ ROW.toList.drop (i * 4 + news.length) := ⟨_, rfl⟩
  obtain ⟨Y, hY⟩ : ∃ Y, Y = X.take ((i + m) * 4) ++ cs.drop (i * 4) ++ X.drop ((i + m) * 4 + (cs.drop (i * 4)).length) := ⟨_, rfl⟩
  obtain ⟨hXl, hYl, hYt⟩ := put_new hGn hin hcsl hvl hRs hRt hX hY
  obtain ⟨W1, hW1⟩ : ∃ W1, W1 = w.drew.alloc (.cells ROW 38) := ⟨_, rfl⟩
  have hs1 : W1.heap.size = w.heap.size + 1 := by rw [hW1]; simp
  have hr1 : W1.heap[w.heap.size]? = some (.cells ROW 38 (0, 0)) := by rw [hW1]; exact heap_alloc_new w.drew _
  have hold1 : ∀ k, k < w.heap.size → W1.heap[k]? = w.heap[k]? := fun k hk => by rw [hW1]; exact (bal (bb w.drew) (.cells ROW 38)).block k hk
  have hg1 : W1.heap[g]? = some (.cells cur.toArray 38 (0, 0)) := (hold1 g hbw).trans hg
  have hv1 : W1.heap[vb]? = some (.cells news.toArray t (0, 0)) := (hold1 vb hvw).trans hv
  have hcpA : ∀ ty dc, (Builtin.copy_ #[24, 24] ty #[.slice (some ⟨w.heap.size, i * 4, none⟩) (n + m - i) dc, .slice (some ⟨vb, 0, none⟩) m vc]).run Tryd.prog W1 = .ok (goInt (Nat.min m (n + m - i))) (W1.setRow w.heap.size X.toArray) := fun ty dc => by
    have := run_copy_box (P := Tryd.prog) W1 24 24 ty 38 4 w.heap.size (i * 4) (n + m - i) dc ⟨vb, 0, none⟩ m vc ROW 38 news Tryd.underlying24 hsz hr1
      (by rw [hvl]; simp only [Nat.min_def]; split <;> omega)
      (fun j v hj => by
        rw [add_none]
        simp [World.cell?, hv1, hj])
      (by rw [← Array.length_toList, hRs, hvl]; omega) h1
    rw [hX]
    exact this
  obtain ⟨W2, hW2⟩ : ∃ W2, W2 = W1.setRow w.heap.size X.toArray := ⟨_, rfl⟩
  have hr2 : W2.heap[w.heap.size]? = some (.cells X.toArray 38 (0, 0)) := by rw [hW2]; exact setRow_heap W1 w.heap.size _ _ 38 _ hr1
  have hg2 : W2.heap[g]? = some (.cells cur.toArray 38 (0, 0)) := by rw [hW2, setRow_other W1 w.heap.size g _ (by omega)]; exact hg1
  have hcpB : ∀ ty dc sc, (Builtin.copy_ #[24, 24] ty #[.slice (some ⟨w.heap.size, (i + m) * 4, none⟩) (n + m - (i + m)) dc, .slice (some ⟨g, i * 4, none⟩) (n - i) sc]).run Tryd.prog W2.drew = .ok (goInt (Nat.min (n - i) (n + m - (i + m)))) (W2.drew.setRow w.heap.size Y.toArray) := fun ty dc sc => by
    have := run_copy_box (P := Tryd.prog) W2.drew 24 24 ty 38 4 w.heap.size ((i + m) * 4) (n + m - (i + m)) dc ⟨g, i * 4, none⟩ (n - i) sc X.toArray 38 (cs.drop (i * 4)) Tryd.underlying24 hsz hr2
      (by rw [hdl]; simp only [Nat.min_def]; split <;> omega)
      (fun j v hj => by
        rw [add_none]
        rw [List.getElem?_drop] at hj
        exact hcell W2.drew hg2 _ _ hj)
      (by rw [hdl, List.size_toArray, hXl]; omega) (fun u hu => h2 u (List.mem_of_mem_drop hu))
    rw [hY]
    exact this
  have hf : Hid (PutPost w (.slice (some ⟨g, 0, none⟩) n c) (n + m) (cs.take (i * 4) ++ news ++ cs.drop (i * 4)) (.returned (.slice (some ⟨w.heap.size, 0, none⟩) (n + m) G)) (W2.drew.setRow w.heap.size Y.toArray)) := by
    refine ⟨_, rfl, owns_mk (setRow_heap W2.drew w.heap.size _ _ 38 _ hr2) hGn (by unfold maxLen; omega) hYl hYt, ?_, .inr rfl⟩
    refine ⟨by rw [hW2, hW1]; rfl, by rw [hW2, hW1]; rfl, by rw [hW2, hW1]; rfl, ?_, fun k hk hkg => ?_⟩
    · rw [setRow_size]
      show w.heap.size ≤ W2.heap.size
      rw [hW2, setRow_size, hs1]; omega
    · have hkn : k ≠ w.heap.size := by omega
      rw [setRow_other W2.drew w.heap.size k _ hkn]
      show W2.heap[k]? = _
      rw [hW2, setRow_other W1 w.heap.size k _ hkn]
      exact hold1 k hk
  rw [← hW1] at hrz
  rw [← hW2] at hcpA
  have hw1 : IntKind.i64.wrap ((i : Int) + (m : Int)) = (i : Int) + (m : Int) := by rw [IntKind.wrap_i64]; omega
  have hb1 : (0 : Int) ≤ (i : Int) + (m : Int) := by omega
  have htn : ((i : Int) + (m : Int)).toNat = i + m := by omega
  have hb3 : (i : Int) ≤ (n : Int) := by omega
  have hGi : ¬ (G = i) := by omega
  have hGim : ¬ (G = i + m) := by omega
  have hci : ¬ (c = i) := by omega
  clear hkk hik hold hROW hG hRs hRt hX hY hXl hYl hYt hr1 hr2 hg1 hg2 hv1 hold1 hs1 hcell hcsl hdl hg hv hcl hcs hbw hvw hW1 hW2
  go_enter Tryd.func41, Tryd.ntmps41
  go_wp2_with (first
    | (at_builtin; refine Lib.wpList_append_run _ rfl _ _ _ _ rfl _ _ rfl rfl _ _ (hrz _) ?_)
    | (at_builtin; refine wpList_copy_runI _ rfl _ _ 24 24 rfl _ _ rfl rfl (hcpA _ _) ?_))
  go_region_law (refine step_copy_runI rfl _ _ 24 24 rfl _ _ (by simp [Act.eval, Act.put]) (by simp [Act.eval, Act.put]) (hcpB _ _ _) ?_)
  go_wp2
  go_ret
  exact hf.out

/-- A record is put in at place i. -/
theorem insertRec_any (A : Option Addr) (n c i vb m : Nat) (cs news : List Value) (t : TypeId) (w : World) (hi' : i ≤ n) (hm : 0 < m) (hn : n + m ≤ 1000) (hown : w.ownsRow 0 38 4 (.slice A n c) n cs)
    (hv : w.heap[vb]? = some (.cells news.toArray t (0, 0))) (hne : ∀ g, A = some ⟨g, 0, none⟩ → vb ≠ g) (hvl : news.length = m * 4) (h1 : ∀ u ∈ news, u.oneCell' = true) (h2 : ∀ u ∈ cs, u.oneCell' = true) :
    Calls Tryd.prog 41 #[.slice A n c, .int .i64 i, .slice (some ⟨vb, 0, none⟩) m m] w (PutPost w (.slice A n c) (n + m) (cs.take (i * 4) ++ news ++ cs.drop (i * 4))) := by
  rcases Nat.lt_or_ge i n with h | h
  · obtain ⟨g, cur, rfl, hg, hnc, hm63, hcl, hct, hcsl⟩ := owns_block hown (by omega)
    have hg' : w.heap[g]? = some (.cells cur.toList.toArray 38 (0, 0)) := by simpa using hg
    rcases Nat.lt_or_ge c (n + m) with hr | hr
    · exact insertGrow_any g n c i vb m m cs news cur.toList t w h hm hnc hr hn hg' hcl hct hv hvl h1 h2
    · exact insertRoom_any g n c i vb m m cs news cur.toList t w h hm hr (by unfold maxLen at hm63; omega) (hne g rfl) hn hg' hcl hct hv hvl h1 h2
  · obtain rfl : i = n := by omega
    have hcsl : cs.length = i * 4 := hown.1
    have hsrc : Src w (some ⟨vb, 0, none⟩) m 4 news := .inr ⟨_, rfl, hvl, fun j u hj => by rw [add_none]; simp [World.cell?, hv, hj]⟩
    have := insertEnd_any A i c vb m m cs news w hm hown hsrc h1 hn
    rw [List.take_of_length_le (by omega), List.drop_eq_nil_of_le (by omega), List.append_nil]
    exact this
end Go.Proofs.YtahbepajeplcmaaDoor

/- Own rows: their blocks, stores into them, parts in front. -/
namespace Go.Proofs.YtahbepajeplcmaaDoor
open Go.RowKit

theorem owns_base {w : World} {B : Nat} {e : TypeId} {size : Nat} {v : Value} {n : Nat} {xs : List Value} (h : w.ownsRow 0 e size v n xs) (hB : ∀ g, v.ownBlock = some g → B ≤ g) : w.ownsRow B e size v n xs := by
  obtain ⟨hl, h | ⟨g, cap, cur, rfl, hg, r⟩⟩ := h
  · exact ⟨hl, .inl h⟩
  · exact ⟨hl, .inr ⟨g, cap, cur, rfl, hB g rfl, r⟩⟩
theorem owns_zero {w : World} {B : Nat} {e : TypeId} {size : Nat} {v : Value} {n : Nat} {xs : List Value} (h : w.ownsRow B e size v n xs) : w.ownsRow 0 e size v n xs := by
  obtain ⟨hl, h | ⟨g, cap, cur, rfl, hg, r⟩⟩ := h
  · exact ⟨hl, .inl h⟩
  · exact ⟨hl, .inr ⟨g, cap, cur, rfl, Nat.zero_le _, r⟩⟩
theorem owns_ge {w : World} {B : Nat} {e : TypeId} {size : Nat} {v : Value} {n : Nat} {xs : List Value} (h : w.ownsRow B e size v n xs) : ∀ g, v.ownBlock = some g → B ≤ g := by
  obtain ⟨hl, ⟨rfl, _⟩ | ⟨g, cap, cur, rfl, hg, r⟩⟩ := h
  · intro g hg; cases hg
  · intro g' hg'
    obtain rfl : g = g' := by simpa [Value.ownBlock] using hg'
    exact hg
/-- The row that a list of parts owns, at the end. -/
theorem Sp.owns_end {w0 w : World} {ps : List Asn} {i : Nat} {size n : Nat} {e : TypeId} {v : Value} {xs : List Value} (h : Sp w0 w ps) (hi : ps[i]? = some (Own e size v n xs)) : w.ownsRow w0.heap.size e size v n xs := by
  obtain ⟨F, ⟨rfl, h1⟩, h2⟩ := h.get hi
  exact owns_base h1 fun g hg => h2 g (by simp [hg])
theorem Sp.own_call {w0 w w' : World} {ps : List Asn} {size n : Nat} {e : TypeId} {v : Value} {xs : List Value} (h : Sp w0 w ps) (hb : Below w.heap.size w w') (ho : w'.ownsRow w.heap.size e size v n xs) : Sp w0 w' (Own e size v n xs :: ps) :=
  h.own_new hb (owns_zero ho) (owns_ge ho)
theorem sep_append : ∀ {qs ps : List Asn} {w : World} {F G : List Nat}, sep qs w F → sep ps w G → (∀ b ∈ F, b ∉ G) → sep (qs ++ ps) w (F ++ G)
  | [], ps, w, F, G, h, k, hd => by
    obtain rfl : F = [] := h
    exact k
  | q :: qs, ps, w, F, G, h, k, hd => by
    obtain ⟨F1, F2, rfl, h1, h2, h3⟩ := h
    refine ⟨F1, F2 ++ G, by rw [List.append_assoc], fun b hb hb2 => ?_, h2, sep_append h3 k fun b hb => hd b (List.mem_append.2 (.inr hb))⟩
    rcases List.mem_append.1 hb2 with h | h
    · exact h1 b hb h
    · exact hd b (List.mem_append.2 (.inl hb)) h
/-- Parts made by a call go in front. -/
theorem Sp.seq {w0 w w' : World} {ps qs : List Asn} (h : Sp w0 w ps) (k : Sp w w' qs) : Sp w0 w' (qs ++ ps) := by
  obtain ⟨h1, G, h2, h3⟩ := h
  obtain ⟨k1, F, k2, k3⟩ := k
  refine ⟨btr h1 k1, F ++ G, sep_append k2 (sep_keep h2 fun b hm => k1.block b (sep_lt h2 b hm)) (fun b hb hb2 => ?_), fun b hb => ?_⟩
  · have := k3 b hb; have := sep_lt h2 b hb2; omega
  · rcases List.mem_append.1 hb with h | h
    · have := k3 b h; have := h1.size; omega
    · exact h3 b h
theorem own_slice {w : World} {B : Nat} {e : TypeId} {size : Nat} {v : Value} {n : Nat} {xs : List Value} (h : w.ownsRow B e size v n xs) : ∃ a c, v = .slice a n c := by
  obtain ⟨_, ⟨rfl, rfl⟩ | ⟨g, cap, cur, rfl, _⟩⟩ := h
  · exact ⟨_, _, rfl⟩
  · exact ⟨_, _, rfl⟩
theorem own_from {w : World} {B : Nat} {e : TypeId} {size : Nat} {A : Option Addr} {n c : Nat} {k : Nat} {xs : List Value} (h : w.ownsRow B e size (.slice A n c) k xs) : ∀ a, A = some a → B ≤ a.block := by
  rintro a rfl
  exact owns_ge h a.block rfl
/-- An own row, told by its block. -/
theorem own_block {w : World} {B : Nat} {e : TypeId} {size : Nat} {v : Value} {n : Nat} {xs : List Value} (h : w.ownsRow B e size v n xs) (hn : 0 < n) :
    ∃ g cap cur, v = .slice (some ⟨g, 0, none⟩) n cap ∧ B ≤ g ∧ w.heap[g]? = some (.cells cur e (0, 0)) ∧ n ≤ cap ∧ cap ≤ maxLen ∧ cur.size = cap * size ∧ cur.toList.take (n * size) = xs := by
  obtain ⟨_, ⟨_, h0⟩ | h⟩ := h
  · omega
  · exact h
theorem own_at {w : World} {g : Nat} {cur : Array Value} {e : TypeId} {size n : Nat} {xs : List Value} (hh : w.heap[g]? = some (.cells cur e (0, 0))) (ht : cur.toList.take (n * size) = xs) {o : Nat} (ho : o < n * size) : w.cell? ⟨g, o, none⟩ = xs[o]? ∧ w.frozen? ⟨g, o, none⟩ = false :=
  ⟨hown_cell hh ht ho, by simp [World.frozen?, hh]⟩
/-- A store into an own row. -/
theorem Sp.own_put {w0 w : World} {ps : List Asn} {i g cap n size o : Nat} {e : TypeId} {xs : List Value} (h : Sp w0 w ps) (hi : ps[i]? = some (Own e size (.slice (some ⟨g, 0, none⟩) n cap) n xs)) (u : Value) (ho : o < n * size) :
    Sp w0 (w.setCell ⟨g, o, none⟩ u) (ps.set i (Own e size (.slice (some ⟨g, 0, none⟩) n cap) n (xs.set o u))) := by
  obtain ⟨F, ⟨rfl, hh⟩, hF, hall⟩ := h.upd hi
  have hlen := hh.1
  obtain ⟨g', cap', cur, e1, h0, hg, hn, hm, hc, ht⟩ := own_block hh (by
    rcases Nat.eq_zero_or_pos n with rfl | h
    · simp at ho
    · exact h)
  simp only [Value.slice.injEq, Option.some.injEq, Addr.mk.injEq] at e1
  obtain ⟨⟨rfl, _⟩, _, rfl⟩ := e1
  have hset : (w.setCell ⟨g, o, none⟩ u).heap[g]? = some (.cells (cur.setIfInBounds o u) e (0, 0)) := by
    simp [World.setCell, Array.getElem?_modify]
    exact ⟨_, hg, rfl⟩
  refine hall _ _ [g] ?_ ⟨rfl, by rw [List.length_set]; exact hlen, .inr ⟨g, cap, cur.setIfInBounds o u, rfl, Nat.zero_le _, hset, hn, hm, by rw [Array.size_setIfInBounds]; exact hc, ?_⟩⟩ fun b hb => .inl hb
  · exact ⟨rfl, rfl, rfl, by simp [World.setCell], fun k _ hn => Below.heap_setCell _ _ _ _ (by simpa [Value.ownBlock] using hn)⟩
  · rw [Array.toList_setIfInBounds, List.take_set, ht]
end Go.Proofs.YtahbepajeplcmaaDoor

/- A part of the memory brought to the front. No program in sight. -/
namespace Go.Proofs.YtahbepajeplcmaaDoor
open Go.RowKit

theorem sep_bring {w : World} : ∀ {ps : List Asn} {F : List Nat} {i : Nat} {q : Asn}, sep ps w F → ps[i]? = some q → ∃ F', sep (q :: ps.eraseIdx i) w F' ∧ ∀ b ∈ F', b ∈ F
  | [], _, _, _, _, h => by simp at h
  | p :: ps, F, 0, q, h, hi => by
    simp at hi; subst hi
    exact ⟨F, h, fun _ h => h⟩
  | p :: ps, _, i + 1, q, h, hi => by
    obtain ⟨F1, F2, rfl, hd, h1, h2⟩ := h
    obtain ⟨F', ⟨F3, F4, rfl, hd', h3, h4⟩, hs⟩ := sep_bring (i := i) h2 (by simpa using hi)
    refine ⟨F3 ++ (F1 ++ F4), ⟨F3, F1 ++ F4, rfl, fun b hb hb2 => ?_, h3, F1, F4, rfl, fun b hb hb2 => hd b hb (hs b (List.mem_append.2 (.inr hb2))), h1, h4⟩, fun b hb => ?_⟩
    · rcases List.mem_append.1 hb2 with h | h
      · exact hd b h (hs b (List.mem_append.2 (.inl hb)))
      · exact hd' b hb h
    · simp only [List.mem_append] at hb ⊢
      rcases hb with h | h | h
      · exact .inr (hs b (List.mem_append.2 (.inl h)))
      · exact .inl h
      · exact .inr (hs b (List.mem_append.2 (.inr h)))
section
variable {w0 w w' : World} {ps : List Asn} {i j : Nat} {q : Asn}
/-- A part is brought to the front. -/
theorem Sp.bring (h : Sp w0 w ps) (hi : ps[i]? = some q) : Sp w0 w (q :: ps.eraseIdx i) := by
  obtain ⟨h1, F, h2, h3⟩ := h
  obtain ⟨F', h4, h5⟩ := sep_bring h2 hi
  exact ⟨h1, F', h4, fun b hb => h3 b (h5 b hb)⟩
end
/-- Parts are picked, by their places in what is left. -/
def pickQ : List Nat → List Asn → Option (List Asn)
  | [], _ => some []
  | i :: is, ps => match ps[i]? with
    | none => none
    | some q => match pickQ is (ps.eraseIdx i) with
      | none => none
      | some qs => some (q :: qs)
theorem sep_pick {w : World} : ∀ {is : List Nat} {ps qs : List Asn} {F : List Nat}, sep ps w F → pickQ is ps = some qs → ∃ F', sep qs w F' ∧ ∀ b ∈ F', b ∈ F
  | [], _, _, _, _, hq => by
    simp only [pickQ, Option.some.injEq] at hq
    subst hq
    exact ⟨[], rfl, by simp⟩
  | i :: is, ps, qs, F, h, hq => by
    unfold pickQ at hq
    cases hi : ps[i]? with
    | none => rw [hi] at hq; cases hq
    | some q =>
      rw [hi] at hq
      simp only at hq
      cases hr : pickQ is (ps.eraseIdx i) with
      | none => rw [hr] at hq; cases hq
      | some rs =>
        rw [hr] at hq
        simp only [Option.some.injEq] at hq
        subst hq
        obtain ⟨F1, ⟨F2, F3, rfl, hd, h1, h2⟩, hs⟩ := sep_bring h hi
        obtain ⟨F4, h3, h4⟩ := sep_pick h2 hr
        exact ⟨F2 ++ F4, ⟨F2, F4, rfl, fun b hb hb4 => hd b hb (h4 b hb4), h1, h3⟩, fun b hb => by
          rcases List.mem_append.1 hb with hb | hb
          · exact hs b (List.mem_append.2 (.inl hb))
          · exact hs b (List.mem_append.2 (.inr (h4 b hb)))⟩
theorem Sp.pick {w0 w : World} {ps qs : List Asn} (is : List Nat) (h : Sp w0 w ps) (hq : pickQ is ps = some qs) : Sp w0 w qs := by
  obtain ⟨h1, F, h2, h3⟩ := h
  obtain ⟨F', h4, h5⟩ := sep_pick h2 hq
  exact ⟨h1, F', h4, fun b hb => h3 b (h5 b hb)⟩
end Go.Proofs.YtahbepajeplcmaaDoor

/- Contracts: own rows of records; a book copied. -/
namespace Go.Proofs.YtahbepajeplcmaaDoor
open Go.RowKit

/-- A row of records of its own. -/
abbrev Recs (v : Value) (ys : List Rec) : Asn := Own 38 4 v ys.length (ys.flatMap rcEnc)
theorem rec_ones (ys : List Rec) : ∀ u ∈ ys.flatMap rcEnc, u.oneCell' = true := by
  intro u hu
  obtain ⟨r, _, hr⟩ := List.mem_flatMap.1 hu
  simp only [rcEnc, List.mem_cons, List.not_mem_nil, or_false] at hr
  rcases hr with rfl | rfl | rfl | rfl <;> rfl
theorem flat4_len (ys : List Rec) : (ys.flatMap rcEnc).length = ys.length * 4 := by
  induction ys with
  | nil => rfl
  | cons y ys ih => rw [List.flatMap_cons, List.length_append, ih, List.length_cons]; simp [rcEnc]; omega
theorem flat4_take : ∀ (ys : List Rec) (i : Nat), (ys.flatMap rcEnc).take (i * 4) = (ys.take i).flatMap rcEnc
  | [], i => by simp
  | y :: ys, 0 => by simp
  | y :: ys, i + 1 => by
    rw [List.flatMap_cons, List.take_succ_cons, List.flatMap_cons, show (i + 1) * 4 = (rcEnc y).length + i * 4 by simp [rcEnc]; omega, List.take_length_add_append, flat4_take ys i]
theorem flat4_drop : ∀ (ys : List Rec) (i : Nat), (ys.flatMap rcEnc).drop (i * 4) = (ys.drop i).flatMap rcEnc
  | [], i => by simp
  | y :: ys, 0 => by simp
  | y :: ys, i + 1 => by
    rw [List.flatMap_cons, List.drop_succ_cons, show (i + 1) * 4 = (rcEnc y).length + i * 4 by simp [rcEnc]; omega, List.drop_length_add_append, flat4_drop ys i]
theorem flat4_get {ys : List Rec} {k j : Nat} {u : Value} (hk : k < ys.length) (hu : (rcEnc ys[k])[j]? = some u) : (ys.flatMap rcEnc)[k * 4 + j]? = some u := by
  have h1 : ((ys.flatMap rcEnc).drop (k * 4))[j]? = some u := by
    rw [flat4_drop, List.drop_eq_getElem_cons hk, List.flatMap_cons, List.getElem?_append_left (List.getElem?_eq_some_iff.1 hu).1]
    exact hu
  rwa [List.getElem?_drop] at h1
theorem flat4_set {ys : List Rec} {k : Nat} (hk : k < ys.length) (r : Rec) :
    ((((ys.flatMap rcEnc).set (k * 4) (.string (ms r.name))).set (k * 4 + 1) (.int .i64 r.sys)).set (k * 4 + 2) (.int .i64 r.size)).set (k * 4 + 3) (.int .i64 r.extra) = (ys.set k r).flatMap rcEnc := by
  have e : ys.flatMap rcEnc = (ys.take k).flatMap rcEnc ++ (rcEnc ys[k] ++ (ys.drop (k + 1)).flatMap rcEnc) := by
    rw [← List.flatMap_cons, List.getElem_cons_drop, ← List.flatMap_append, List.take_append_drop]
  have hl : ((ys.take k).flatMap rcEnc).length = k * 4 := by rw [flat4_len, List.length_take]; omega
  have e2 : (ys.set k r).flatMap rcEnc = (ys.take k).flatMap rcEnc ++ (rcEnc r ++ (ys.drop (k + 1)).flatMap rcEnc) := by
    rw [List.set_eq_take_append_cons_drop, if_pos hk, List.flatMap_append, List.flatMap_cons]
  rw [e, e2]
  generalize (ys.take k).flatMap rcEnc = X at *
  generalize (ys.drop (k + 1)).flatMap rcEnc = Z at *
  rw [List.set_append_right _ _ (by omega), List.set_append_right _ _ (by omega), List.set_append_right _ _ (by omega), List.set_append_right _ _ (by omega), hl]
  simp only [Nat.sub_self, Nat.add_sub_cancel_left]
  rfl
theorem Sp.recs_row {w0 w : World} {ps : List Asn} {i : Nat} {v : Value} {ys : List Rec} (h : Sp w0 w ps) (hi : ps[i]? = some (Recs v ys)) (hg : ∀ y ∈ ys, rcOk y) :
    ∃ F, rcTy.row true w v ys F ∧ F.Nodup ∧ ∀ b ∈ F, w0.heap.size ≤ b := by
  obtain ⟨Fi, ⟨rfl, ho⟩, hF, -⟩ := h.upd hi
  obtain ⟨F, hr, hF2, _⟩ := Ty.row_of_owns (T := rcTy) (xs := ys) (G := []) ho rfl (by decide) (flat_all.2 ⟨rfl, hg, rfl⟩)
  refine ⟨F, hr, ?_, fun b hb => ?_⟩
  · rcases hF2 with rfl | ⟨g, _, _, _, rfl⟩ <;> simp
  · rcases hF2 with rfl | ⟨g, _, _, hg, rfl⟩
    · cases hb
    · refine hF b ?_
      rw [hg]; simpa using hb
theorem row_read {v : Value} {xs : List Rec} {F : List Nat} {w : World} (h : rcTy.row true w v xs F) : rcTy.row false w v xs F := Ty.row_down h
theorem rec_src {v : Value} {xs : List Rec} {F : List Nat} {w : World} (h : rcTy.row false w v xs F) : ∃ A c, v = .slice A xs.length c ∧ Src w A xs.length 4 (xs.flatMap rcEnc) ∧ (∀ x ∈ xs, rcOk x) ∧ (A = none → xs = []) := by
  obtain ⟨A, c, cs, G, rfl, hall, hs, _⟩ := row_src h
  obtain ⟨rfl, h2, _⟩ := flat_all.1 hall
  refine ⟨A, c, rfl, hs, h2, ?_⟩
  rintro rfl
  rcases hs with ⟨h, _⟩ | ⟨ad, e, _⟩
  · exact List.length_eq_zero_iff.1 h
  · cases e

set_option maxRecDepth 100000 in
set_option maxHeartbeats 4000000 in
theorem cloneR_any (v : Value) (xs : List Rec) (F : List Nat) (w : World) (hx : rcTy.row false w v xs F) (hl : xs.length ≤ 1000) :
    Calls Tryd.prog 19 #[v] w fun e w' => ∃ A c, e = .returned (.slice A xs.length c) ∧ Sp w w' [Recs (.slice A xs.length c) xs] := by
  obtain ⟨i0, hi0, hz0, hz1, hz2⟩ := info_parts infoRc
  obtain ⟨A, c, rfl, hsr, hg, hnone⟩ := rec_src hx
  have hnil := fun w : World => Lib.run_eql_slice_nil (P := Tryd.prog) w 24 38 A xs.length c 0 0 Tryd.underlying24
  cases A with
  | none =>
    obtain rfl := hnone rfl
    simp only [Option.isNone_none, List.length_nil] at hnil ⊢
    have S0 := (Sp.start w).own_nil 38 4
    replace S0 := Lib.hid S0
    clear hx hsr
    go_enter Tryd.func19, Tryd.ntmps19
    go_wp2_with fail
    go_ret
    exact ⟨_, _, rfl, S0.out⟩
  | some ad =>
    simp only [Option.isNone_some] at hnil
    have S4 := (Sp.start w).own_made 38 4
    have hsr2 := Lib.hid (hsr.grow S4.below)
    have h1c := Lib.hid (rec_ones xs)
    replace S4 := Lib.hid S4
    clear hx hsr hnone
    go_enter Tryd.func19, Tryd.ntmps19
    go_wp2_with (at_builtin; refine wpList_append_src rfl _ _ rfl Tryd.underlying24 hi0 hz0 hz1 hz2 rfl (by decide) _ 0 _ rfl (S4.out.own (i := 0) rfl) (some ad) xs.length c (xs.flatMap rcEnc) rfl hsr2.out h1c.out ?c3 ?c4 ?_)
    case c3 => unfold maxLen; omega
    case c4 => omega
    intro vY wY hownY hgY hatY
    have S5 := S4.out.own_push (i := 0) rfl (bb _) hownY hgY (by simpa using hatY)
    (try rw [List.nil_append] at S5)
    (try simp only [Nat.zero_add, List.set_cons_zero] at S5)
    replace S5 := Lib.hid S5
    obtain ⟨aY, cY, rfl⟩ := own_slice hownY
    clear S4 hownY hgY hatY hsr2 h1c hnil
    go_wp2_with fail
    go_ret
    exact ⟨_, _, rfl, S5.out⟩
end Go.Proofs.YtahbepajeplcmaaDoor
