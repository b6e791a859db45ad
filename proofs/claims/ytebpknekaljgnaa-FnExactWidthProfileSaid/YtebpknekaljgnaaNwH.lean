/- Contracts: a number in a row, in the reference. -/
import Derived.Test.YtebpknekaljgnaaClC
namespace Go.Proofs.Ytebpknekaljgnaa
open Go.RowKit

/-- A number is in a row. -/
def hasI (xs : List Int) (x : Int) : Bool := xs.contains x
theorem hasI_no {xs : List Int} {x : Int} {k : Nat} (hk : k < xs.length) (h0 : hasI (xs.take k) x = false) (h : ¬ xs[k] = x) : hasI (xs.take (k + 1)) x = false := by
  unfold hasI at *
  rw [List.take_succ_eq_append_getElem hk, List.contains_append, h0]
  simp
  exact fun e => h e.symm
theorem hasI_yes {xs : List Int} {x : Int} {k : Nat} (hk : k < xs.length) (h : xs[k] = x) : hasI xs x = true := by
  unfold hasI
  subst h
  simp

set_option maxHeartbeats 1000000 in
theorem l1Has_any (v : Value) (xs : List Int) (F : List Nat) (x : Int) (w : World) (h : Ty.int.row false w v xs F) :
    Calls Try.prog 72 #[v, .int .i64 x] w fun e w' => e = .returned (.bool (hasI xs x)) ∧ w = w' := by
  obtain ⟨a, cap, rfl, hx1, hx2, _, hx3⟩ := row_int h
  go_enter Try.func72, Try.ntmps72
  go_wp2_with fail
  go_loopw [5] (fun i wr => ∃ k : Nat, k ≤ xs.length ∧ i = .int .i64 k ∧ Hid (hasI (xs.take k) x = false) ∧ w = wr) (fun i _ => xs.length - (intOf i).toNat)
  case atStart => exact ⟨0, Nat.zero_le _, rfl, by simp [Hid, hasI], rfl⟩
  case round =>
    obtain ⟨k, hk, rfl, HR, rfl⟩ := hrel
    by_cases hlt : k < xs.length
    · rcases hx3 with ⟨rfl, rfl⟩ | ⟨hxn, b, off, rfl, rfl, hxc⟩
      · exact absurd hlt (by simp)
      have k0 := (hxc k hlt).1
      by_cases he : xs[k] = x
      · have HN : Hid (hasI xs x = true) := hasI_yes hlt he
        have he' : (xs[k] == x) = true := by simpa using he
        clear he HR
        go_wp2_with fail
        go_ret
        exact ⟨ret_bool HN.out.symm, rfl⟩
      · have HN : Hid (hasI (xs.take (k + 1)) x = false) := hasI_no hlt HR.out he
        have he' : (xs[k] == x) = false := by simpa using he
        clear he HR
        go_wp2_with fail
        go_roundw
        case rel => exact ⟨k + 1, by omega, by go_num, HN, by first | rfl | trivial⟩
        case measure => simp [intOf]; omega
    · obtain rfl : k = xs.length := by omega
      have HN := HR.out
      rw [List.take_length] at HN
      replace HN := Lib.hid HN
      clear HR
      go_wp2_with fail
      go_ret
      exact ⟨ret_bool HN.out.symm, rfl⟩

set_option maxHeartbeats 1000000 in
theorem l2Has_any (v : Value) (xs : List Int) (F : List Nat) (x : Int) (w : World) (h : Ty.int.row false w v xs F) :
    Calls Try.prog 69 #[v, .int .i64 x] w fun e w' => e = .returned (.bool (hasI xs x)) ∧ w = w' := by
  go_enter Try.func69, Try.ntmps69
  go_wp2_with (go_at_call 72; refine (l1Has_any _ _ _ _ _ h).mono ?_; rintro e w1 ⟨rfl, rfl⟩)
  go_ret
  exact ⟨rfl, rfl⟩
theorem l2Has_at {v : Value} {xs : List Int} {F : List Nat} {x : Int} {w : World} {q : Bool} (h : Ty.int.row false w v xs F) (hq : hasI xs x = q) :
    Calls Try.prog 69 #[v, .int .i64 x] w fun e w' => e = .returned (.bool q) ∧ w = w' := hq ▸ l2Has_any v xs F x w h
end Go.Proofs.Ytebpknekaljgnaa
