/- Contracts: the edges at a vertex. -/
import Derived.Test.YtebhkfhdjdgokaaChA
import Derived.Test.YtebhkfhdjdgokaaChD
import Derived.Test.YtebhkfhdjdgokaaSepB
namespace Go.Proofs.Ytebhkfhdjdgokaa
open Go.RowKit

/-- A list of so many numbers is returned. -/
def LenPost (n : Nat) (w : World) (e : Ending) (w' : World) : Prop := ∃ a c, e = .returned (.slice a n c) ∧ Below w.heap.size w w'

set_option maxHeartbeats 1000000 in
theorem l27At_any (V : Int) (v : Value) (ua : Option Addr) (ul uc : Nat) (es : List (Int × Int)) (x : Int) (F : List Nat) (w : World) (hx : tmTy.row false w v es F) (hl : es.length ≤ 100) :
    Calls Try.prog 90 #[.agg #[.int .i64 V, v, .slice ua ul uc], .int .i64 x] w (LenPost (cntTo es x es.length) w) := by
  obtain ⟨i0, hi, hz0, hz1, hz2⟩ := info_parts infoInt
  obtain ⟨a, c, rfl, hx1, hx2, _, hx3⟩ := row_tm hx
  have S0 := ((Sp.start w).alloc_box #[.int .i64 V, .slice a es.length c, .slice ua ul uc] 35).own_made 3 1
  simp only [World.size_alloc] at S0
  replace S0 := Lib.hid S0
  go_enter Try.func90, Try.ntmps90
  go_wp2_with fail
  go_loopw [5, 6] (fun s i wr => ∃ (k : Nat) (xs : List Value), k ≤ es.length ∧ i = .int .i64 k ∧ Hid (Sp w wr [Own 3 1 s (cntTo es x k) xs, Box w.heap.size 35 #[.int .i64 V, .slice a es.length c, .slice ua ul uc]])) (fun _ i _ => es.length - (intOf i).toNat)
  case atStart => exact ⟨0, _, Nat.zero_le _, rfl, S0⟩
  case round =>
    obtain ⟨k, xs, hk, rfl, HR⟩ := hrel
    clear S0
    have c1 := HR.out.cell (i := 1) rfl (o := 1) rfl
    obtain ⟨sa, sc, rfl⟩ := owns_form (HR.out.own (i := 0) rfl)
    by_cases hlt : k < es.length
    · rcases hx3 with ⟨rfl, rfl⟩ | ⟨hxn, b, off, rfl, rfl, hxc⟩
      · exact absurd hlt (by simp)
      have hB := HR.out.below
      have k0 := ((hxc k hlt).1.keep (hB.block b (hxc k hlt).1.lt)).1
      have k1 := ((hxc k hlt).2.keep (hB.block b (hxc k hlt).2.lt)).1
      have hyes := Lib.hid (@cnt_yes es x k hlt)
      have hno := Lib.hid (@cnt_no es x k hlt)
      have hcl := cnt_le es x k
      clear hxc hB
      generalize es[k] = e at k0 k1 hyes hno
      obtain ⟨e1, e2⟩ := e
      cases q1 : (e1 == x)
      · cases q2 : (e2 == x)
        · have HN : Hid (cntTo es x (k + 1) = cntTo es x k) := hno.out (by simp [hitB, q1, q2])
          clear hyes hno
          go_wp2_with fail
          go_roundw
          case rel => exact ⟨k + 1, xs, by omega, by go_num, by rw [HN.out]; exact HR⟩
          case measure => simp [intOf]; omega
        · have HN : Hid (cntTo es x (k + 1) = cntTo es x k + 1) := hyes.out (by simp [hitB, q2])
          clear hyes hno
          have SA := HR.out.alloc (.cells #[.int .i64 k] 3)
          go_wp2_with (at_builtin; refine wpList_append_at rfl _ _ 31 rfl 3 i0 (.int .i64 0) 1 8 Try.underlying31 hi hz0 hz1 hz2 rfl (by decide) _ _ _ rfl (SA.own (i := 0) rfl) ⟨wr.heap.size, 0, none⟩ 1 1 [.int .i64 k] rfl rfl (one_new rfl) (by simp [Value.oneCell']) ?c3 ?c4 ?_)
          case c3 => unfold maxLen; omega
          case c4 => omega
          intro v' w1 hown hg hat
          have S1 := SA.own_push (i := 0) rfl (bb _) hown hg (by simpa using hat)
          rw [← HN.out] at S1
          replace S1 := Lib.hid S1
          clear SA HR hown hg hat
          go_wp2_with fail
          go_roundw
          case rel => exact ⟨k + 1, _, by omega, by go_num, S1⟩
          case measure => simp [intOf]; omega
      · have HN : Hid (cntTo es x (k + 1) = cntTo es x k + 1) := hyes.out (by simp [hitB, q1])
        clear hyes hno
        have SA := HR.out.alloc (.cells #[.int .i64 k] 3)
        go_wp2_with (at_builtin; refine wpList_append_at rfl _ _ 31 rfl 3 i0 (.int .i64 0) 1 8 Try.underlying31 hi hz0 hz1 hz2 rfl (by decide) _ _ _ rfl (SA.own (i := 0) rfl) ⟨wr.heap.size, 0, none⟩ 1 1 [.int .i64 k] rfl rfl (one_new rfl) (by simp [Value.oneCell']) ?d3 ?d4 ?_)
        case d3 => unfold maxLen; omega
        case d4 => omega
        intro v' w1 hown hg hat
        have S1 := SA.own_push (i := 0) rfl (bb _) hown hg (by simpa using hat)
        rw [← HN.out] at S1
        replace S1 := Lib.hid S1
        clear SA HR hown hg hat
        go_wp2_with fail
        go_roundw
        case rel => exact ⟨k + 1, _, by omega, by go_num, S1⟩
        case measure => simp [intOf]; omega
    · obtain rfl : k = es.length := by omega
      go_wp2_with fail
      go_ret
      exact ⟨_, _, rfl, HR.out.below⟩

set_option maxHeartbeats 1000000 in
theorem chargedAt_any (V : Int) (v : Value) (ua : Option Addr) (ul uc : Nat) (es : List (Int × Int)) (x : Int) (F : List Nat) (w : World) (hx : tmTy.row false w v es F) (hl : es.length ≤ 100) :
    Calls Try.prog 76 #[.agg #[.int .i64 V, v, .slice ua ul uc], .int .i64 x] w (LenPost (cntTo es x es.length) w) := by
  obtain ⟨i0, hi, hz0, hz1, hz2⟩ := info_parts infoInt
  obtain ⟨a, c, rfl, hx1, hx2, _, hx3⟩ := row_tm hx
  have S0 := ((Sp.start w).alloc_box #[.int .i64 V, .slice a es.length c, .slice ua ul uc] 35).own_nil 3 1
  replace S0 := Lib.hid S0
  go_enter Try.func76, Try.ntmps76
  go_wp2_with fail
  go_loopw [5, 11] (fun s i wr => ∃ (k : Nat) (xs : List Value), k ≤ es.length ∧ i = .int .i64 k ∧ Hid (Sp w wr [Own 3 1 s (cntTo es x k) xs, Box w.heap.size 35 #[.int .i64 V, .slice a es.length c, .slice ua ul uc]])) (fun _ i _ => es.length - (intOf i).toNat)
  case atStart => exact ⟨0, _, Nat.zero_le _, rfl, S0⟩
  case round =>
    obtain ⟨k, xs, hk, rfl, HR⟩ := hrel
    clear S0
    have c1 := HR.out.cell (i := 1) rfl (o := 1) rfl
    obtain ⟨sa, sc, rfl⟩ := owns_form (HR.out.own (i := 0) rfl)
    by_cases hlt : k < es.length
    · rcases hx3 with ⟨rfl, rfl⟩ | ⟨hxn, b, off, rfl, rfl, hxc⟩
      · exact absurd hlt (by simp)
      have hB := HR.out.below
      have k0 := ((hxc k hlt).1.keep (hB.block b (hxc k hlt).1.lt)).1
      have k1 := ((hxc k hlt).2.keep (hB.block b (hxc k hlt).2.lt)).1
      have hyes := Lib.hid (@cnt_yes es x k hlt)
      have hno := Lib.hid (@cnt_no es x k hlt)
      have hcl := cnt_le es x k
      clear hxc hB
      generalize es[k] = e at k0 k1 hyes hno
      obtain ⟨e1, e2⟩ := e
      cases q1 : (e1 == x)
      · cases q2 : (e2 == x)
        · have HN : Hid (cntTo es x (k + 1) = cntTo es x k) := hno.out (by simp [hitB, q1, q2])
          clear hyes hno
          go_wp2_with fail
          go_roundw
          case rel => exact ⟨k + 1, xs, by omega, by go_num, by rw [HN.out]; exact Lib.hid (HR.out.alloc _)⟩
          case measure => simp [intOf]; omega
        · have HN : Hid (cntTo es x (k + 1) = cntTo es x k + 1) := hyes.out (by simp [hitB, q2])
          clear hyes hno
          have SA := (HR.out.alloc (.cells #[.int .i64 e1, .int .i64 e2] 85)).alloc (.cells #[.int .i64 k] 3)
          go_wp2_with (at_builtin; refine wpList_append_at rfl _ _ 31 rfl 3 i0 (.int .i64 0) 1 8 Try.underlying31 hi hz0 hz1 hz2 rfl (by decide) _ _ _ rfl (SA.own (i := 0) rfl) ⟨wr.heap.size + 1, 0, none⟩ 1 1 [.int .i64 k] rfl rfl (one_new (by simp)) (by simp [Value.oneCell']) ?c3 ?c4 ?_)
          case c3 => unfold maxLen; omega
          case c4 => omega
          intro v' w1 hown hg hat
          have S1 := SA.own_push (i := 0) rfl (bb _) hown hg (by simpa using hat)
          rw [← HN.out] at S1
          replace S1 := Lib.hid S1
          clear SA HR hown hg hat
          go_wp2_with fail
          go_roundw
          case rel => exact ⟨k + 1, _, by omega, by go_num, S1⟩
          case measure => simp [intOf]; omega
      · have HN : Hid (cntTo es x (k + 1) = cntTo es x k + 1) := hyes.out (by simp [hitB, q1])
        clear hyes hno
        have SA := (HR.out.alloc (.cells #[.int .i64 e1, .int .i64 e2] 85)).alloc (.cells #[.int .i64 k] 3)
        go_wp2_with (at_builtin; refine wpList_append_at rfl _ _ 31 rfl 3 i0 (.int .i64 0) 1 8 Try.underlying31 hi hz0 hz1 hz2 rfl (by decide) _ _ _ rfl (SA.own (i := 0) rfl) ⟨wr.heap.size + 1, 0, none⟩ 1 1 [.int .i64 k] rfl rfl (one_new (by simp)) (by simp [Value.oneCell']) ?d3 ?d4 ?_)
        case d3 => unfold maxLen; omega
        case d4 => omega
        intro v' w1 hown hg hat
        have S1 := SA.own_push (i := 0) rfl (bb _) hown hg (by simpa using hat)
        rw [← HN.out] at S1
        replace S1 := Lib.hid S1
        clear SA HR hown hg hat
        go_wp2_with fail
        go_roundw
        case rel => exact ⟨k + 1, _, by omega, by go_num, S1⟩
        case measure => simp [intOf]; omega
    · obtain rfl : k = es.length := by omega
      go_wp2_with fail
      go_ret
      exact ⟨_, _, rfl, HR.out.below⟩
end Go.Proofs.Ytebhkfhdjdgokaa
