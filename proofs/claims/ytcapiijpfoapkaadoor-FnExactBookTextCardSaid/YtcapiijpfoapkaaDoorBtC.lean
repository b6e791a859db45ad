/- Contracts: the text of a book, in the reference. -/
import Derived.Test.YtcapiijpfoapkaaDoorBtB
import Derived.Test.YtcapiijpfoapkaaDoorBookI
import Derived.Test.YtcapiijpfoapkaaDoorStrD
import Derived.BigQuiet
namespace Go.Proofs.YtcapiijpfoapkaaDoor
open Go.RowKit

theorem bookGood_at {v : Value} {xs : List Rec} {F : List Nat} {w : World} {q : Bool} (hx : rcTy.row false w v xs F) (h : bookB xs = q) :
    Calls Tryd.prog 15 #[v] w fun e w' => e = .returned (.bool q) ∧ Below w.heap.size w w' := h ▸ l31Good_any v xs F w hx
theorem bookIs_at {v : Value} {xs : List Rec} {F : List Nat} {w : World} {q : Bool} (hx : rcTy.row false w v xs F) (h : bookB xs = q) :
    Calls Tryd.prog 18 #[v] w fun e w' => e = .returned (.bool q) ∧ Below w.heap.size w w' := h ▸ isBook_any v xs F w hx
theorem l1Num_at (n : Int) (h : 0 ≤ n ∧ n ≤ 9999) (w : World) :
    Calls Tryd.prog 37 #[.int .i64 n] w fun e w' => e = .returned (.string (ms (Lib.itoa n))) ∧ Below w.heap.size w w' := l1Num_pos n w h.1 (by omega)

set_option maxRecDepth 100000 in
set_option maxHeartbeats 4000000 in
theorem l31Text_any (v : Value) (xs : List Rec) (F : List Nat) (w : World) (hx : rcTy.row false w v xs F) (hb : bookB xs = true) :
    Calls Tryd.prog 23 #[v] w fun e w' => e = .returned (.string (ms (textB xs))) ∧ Below w.heap.size w w' := by
  obtain ⟨a, c, rfl, hx1, hx2, hg, hx3⟩ := row_rc hx
  clear hx
  go_enter Tryd.func23, Tryd.ntmps23
  go_wp2_with fail
  go_loopw [3, 4] (fun s i wr => ∃ k : Nat, k ≤ xs.length ∧ i = .int .i64 k ∧ s = .string (ms (textB (xs.take k))) ∧ Hid (Below w.heap.size w wr)) (fun _ i _ => xs.length - (intOf i).toNat)
  case atStart => exact ⟨0, Nat.zero_le _, rfl, rfl, bb _⟩
  case round =>
    obtain ⟨k, hk, rfl, rfl, HB⟩ := hrel
    by_cases hlt : k < xs.length
    · rcases hx3 with ⟨rfl, rfl⟩ | ⟨hxn, b, off, rfl, rfl, hxc⟩
      · exact absurd hlt (by simp)
      obtain ⟨p0, p1, p2, p3⟩ := hxc k hlt
      have hp := HB.out.block b p0.lt
      have k0 := (p0.keep hp).1
      have k1 := (p1.keep hp).1
      have k2 := (p2.keep hp).1
      have k3 := (p3.keep hp).1
      have hrk := book_all hb xs[k] (List.getElem_mem hlt)
      obtain ⟨⟨n0, n1⟩, _, ⟨s0, s1⟩, hz, he⟩ := rec_parts hrk
      have hl := take_len hb (Nat.le_of_lt hlt)
      have ht := Lib.hid (textB_succ hlt)
      have hlet := Lib.hid (letter s0 s1)
      have l1 := itoa_four (n := xs[k].size) (by omega) (by omega)
      have l2 := itoa_four he.1 he.2
      have S1 := (Sp.of_below HB.out).alloc_box #[.string (ms xs[k].name), .int .i64 xs[k].sys, .int .i64 xs[k].size, .int .i64 xs[k].extra] 39
      have b0 := cell_regrown (S1.cell (i := 0) rfl (o := 0) rfl)
      have b1 := cell_regrown (S1.cell (i := 0) rfl (o := 1) rfl)
      have b2 := cell_regrown (S1.cell (i := 0) rfl (o := 2) rfl)
      have b3 := cell_regrown (S1.cell (i := 0) rfl (o := 3) rfl)
      have hS := Lib.hid S1.below
      clear S1 p0 p1 p2 p3 hp hrk hb hxc hg
      obtain ⟨T, hT⟩ : ∃ T, textB (xs.take k) = T := ⟨_, rfl⟩
      rw [hT] at hl ht ⊢
      clear hT
      generalize xs[k] = r at *
      obtain ⟨nm, sy, sz, ex⟩ := r
      dsimp only at *
      go_wp2_with fail
      refine wp_region_quiet_below (by kernel_rfl) (by kernel_rfl) ?_
      repeat (any_goals (first | go_big_quiet_step ((go_at_call 37; first | (with_reducible exact Calls.regrown_of (l1Num_at sz (And.intro (by omega) (by omega)) _)) | (with_reducible exact Calls.regrown_of (l1Num_at ex he _))))))
      refine wpQuiet_nil ?_
      rintro w1 ⟨p, rfl⟩
      go_wp2_with fail
      go_roundw
      case rel =>
        refine ⟨k + 1, by omega, by go_num, ?_, hS.out.trans ((below_regrown _ _ _).mono hS.out.size)⟩
        have e1 := hlet.out
        refine congrArg Value.string ?_
        apply bl_inj
        rw [bl_ms, ht.out]
        simp [bl_append, bl_ms, bl_lit, recT]
        rw [show sy.toNat - 1 = (sy - 1).toNat by omega, e1, bl_ms]
      case measure => simp [intOf]; omega
    · obtain rfl : k = xs.length := by omega
      go_wp2_with fail
      go_ret
      exact ⟨ret_str (by rw [List.take_length]), HB.out⟩

set_option maxHeartbeats 1000000 in
theorem specBookText_any (v : Value) (xs : List Rec) (F : List Nat) (w : World) (hx : rcTy.row false w v xs F) :
    Calls Tryd.prog 12 #[v] w fun e w' => e = .returned (.tuple #[.string (ms (if bookB xs then textB xs else [])), .bool (bookB xs)]) ∧ Below w.heap.size w w' := by
  obtain ⟨a, c, rfl, _⟩ := row_rc hx
  cases hb : bookB xs
  · go_enter Tryd.func12, Tryd.ntmps12
    go_wp2_with (go_at_call 15; refine (bookGood_at hx hb).mono ?_; rintro e w1 ⟨rfl, hb1⟩)
    go_ret2
    exact ⟨rfl, hb1⟩
  · have hx2 := fun w1 (hb1 : Below w.heap.size w w1) => Ty.row_below hx hb1 (Ty.row_lt hx)
    go_enter Tryd.func12, Tryd.ntmps12
    go_wp2_with (go_at_call 15; refine (bookGood_at hx hb).mono ?_; rintro e w1 ⟨rfl, hb1⟩)
    go_at_call 23
    refine (l31Text_any _ xs F _ (hx2 _ hb1) hb).mono ?_
    rintro e w2 ⟨rfl, hb2⟩
    go_wp2_with fail
    go_ret2
    exact ⟨rfl, btr hb1 hb2⟩
end Go.Proofs.YtcapiijpfoapkaaDoor
