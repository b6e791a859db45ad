/- Contracts: the value of a clause under an assignment, in the reference and in the program. -/
import Derived.Test.YtkgfgheiabapoaaClC
import Derived.Test.YtkgfgheiabapoaaBenchD
namespace Go.Proofs.Ytkgfgheiabapoaa
open Go.RowKit

theorem hasI_no {xs : List Int} {x : Int} {k : Nat} (hk : k < xs.length) (h0 : hasI (xs.take k) x = false) (h : ¬ xs[k] = x) : hasI (xs.take (k + 1)) x = false := by
  unfold hasI at *
  rw [List.take_succ_eq_append_getElem hk, List.contains_append, h0]
  simp
  exact fun e => h e.symm
theorem hasI_yes {xs : List Int} {x : Int} {k : Nat} (hk : k < xs.length) (h : xs[k] = x) : hasI xs x = true := by
  unfold hasI
  subst h
  simp

set_option maxHeartbeats 1000000 in
theorem l1Has_any (v : Value) (xs : List Int) (F : List Nat) (x : Int) (w : World) (h : Ty.int.row false w v xs F) :
    Calls Try.prog 184 #[v, .int .i64 x] w fun e w' => e = .returned (.bool (hasI xs x)) ∧ w = w' := by
  obtain ⟨a, cap, rfl, hx1, hx2, _, hx3⟩ := row_int h
  go_enter Try.func184, Try.ntmps184
  go_wp2_with fail
  go_loopw [5] (fun i wr => ∃ k : Nat, k ≤ xs.length ∧ i = .int .i64 k ∧ Hid (hasI (xs.take k) x = false) ∧ w = wr) (fun i _ => xs.length - (intOf i).toNat)
  case atStart => exact ⟨0, Nat.zero_le _, rfl, by simp [Hid, hasI], rfl⟩
  case round =>
    obtain ⟨k, hk, rfl, HR, rfl⟩ := hrel
    by_cases hlt : k < xs.length
    · rcases hx3 with ⟨rfl, rfl⟩ | ⟨hxn, b, off, rfl, rfl, hxc⟩
      · exact absurd hlt (by simp)
      have k0 := (hxc k hlt).1
      by_cases he : xs[k] = x
      · have HN : Hid (hasI xs x = true) := hasI_yes hlt he
        have he' : (xs[k] == x) = true := by simpa using he
        clear he HR
        go_wp2_with fail
        go_ret
        exact ⟨ret_bool HN.out.symm, rfl⟩
      · have HN : Hid (hasI (xs.take (k + 1)) x = false) := hasI_no hlt HR.out he
        have he' : (xs[k] == x) = false := by simpa using he
        clear he HR
        go_wp2_with fail
        go_roundw
        case rel => exact ⟨k + 1, by omega, by go_num, HN, by first | rfl | trivial⟩
        case measure => simp [intOf]; omega
    · obtain rfl : k = xs.length := by omega
      have HN := HR.out
      rw [List.take_length] at HN
      replace HN := Lib.hid HN
      clear HR
      go_wp2_with fail
      go_ret
      exact ⟨ret_bool HN.out.symm, rfl⟩

set_option maxHeartbeats 1000000 in
theorem l2Has_any (v : Value) (xs : List Int) (F : List Nat) (x : Int) (w : World) (h : Ty.int.row false w v xs F) :
    Calls Try.prog 172 #[v, .int .i64 x] w fun e w' => e = .returned (.bool (hasI xs x)) ∧ w = w' := by
  go_enter Try.func172, Try.ntmps172
  go_wp2_with (go_at_call 184; refine (l1Has_any _ _ _ _ _ h).mono ?_; rintro e w1 ⟨rfl, rfl⟩)
  go_ret
  exact ⟨rfl, rfl⟩
theorem l2Has_at {v : Value} {xs : List Int} {F : List Nat} {x : Int} {w : World} {q : Bool} (h : Ty.int.row false w v xs F) (hq : hasI xs x = q) :
    Calls Try.prog 172 #[v, .int .i64 x] w fun e w' => e = .returned (.bool q) ∧ w = w' := hq ▸ l2Has_any v xs F x w h
theorem containsInt_at {v : Value} {xs : List Int} {F : List Nat} {x : Int} {w : World} {q : Bool} (h : Ty.int.row false w v xs F) (hq : hasI xs x = q) :
    Calls Try.prog 67 #[v, .int .i64 x] w fun e w' => e = .returned (.bool q) ∧ w = w' := hq ▸ containsInt_any v xs F x w h

/-- A literal is false. -/
def offB (a : List Int) (l : Int) : Bool := hasI a (wrap64 (-l))
/-- The value of a clause so far, if no literal is true. -/
def valTo (c a : List Int) (k : Nat) : Int := if (c.take k).all (offB a) then -1 else 0
/-- The value of a clause under an assignment. -/
def valB (c a : List Int) : Int := if c.any (hasI a) then 1 else valTo c a c.length
theorem val_true {c a : List Int} {k : Nat} (hk : k < c.length) (h : hasI a c[k] = true) : valB c a = 1 := by
  unfold valB
  rw [if_pos (List.any_eq_true.2 ⟨_, List.getElem_mem hk, h⟩)]
theorem val_step_off {c a : List Int} {k : Nat} (hk : k < c.length) (h : hasI a (wrap64 (-c[k])) = true) : valTo c a (k + 1) = valTo c a k := by
  unfold valTo
  rw [List.take_succ_eq_append_getElem hk, List.all_append]
  simp [offB, h]
theorem val_step_open {c a : List Int} {k : Nat} (hk : k < c.length) (h : hasI a (wrap64 (-c[k])) = false) : valTo c a (k + 1) = 0 := by
  unfold valTo
  rw [List.take_succ_eq_append_getElem hk, List.all_append]
  simp [offB, h]
theorem any_step {c a : List Int} {k : Nat} (hk : k < c.length) (h0 : (c.take k).any (hasI a) = false) (h : hasI a c[k] = false) : (c.take (k + 1)).any (hasI a) = false := by
  rw [List.take_succ_eq_append_getElem hk, List.any_append, h0]
  simp [h]

set_option maxHeartbeats 1000000 in
theorem l3Value_any (v u : Value) (c a : List Int) (F G : List Nat) (w : World) (hx : Ty.int.row false w v c F) (hy : Ty.int.row false w u a G) :
    Calls Try.prog 147 #[v, u] w fun e w' => e = .returned (.int .i64 (valB c a)) ∧ w = w' := by
  obtain ⟨ad, cap, rfl, hx1, hx2, _, hx3⟩ := row_int hx
  go_enter Try.func147, Try.ntmps147
  go_wp2_with fail
  go_loopw [5, 6] (fun s i wr => ∃ (k : Nat) (z : Int), k ≤ c.length ∧ s = .int .i64 z ∧ i = .int .i64 k ∧ Hid (z = valTo c a k ∧ (c.take k).any (hasI a) = false) ∧ w = wr) (fun _ i _ => c.length - (intOf i).toNat)
  case atStart => exact ⟨0, -1, Nat.zero_le _, rfl, rfl, by simp [Hid, valTo], rfl⟩
  case round =>
    obtain ⟨k, z, hk, rfl, rfl, HR, rfl⟩ := hrel
    by_cases hlt : k < c.length
    · rcases hx3 with ⟨rfl, rfl⟩ | ⟨hxn, b, off, rfl, rfl, hxc⟩
      · exact absurd hlt (by simp)
      have k0 := (hxc k hlt).1
      cases hp : hasI a c[k]
      · obtain ⟨HR1, HR2⟩ := HR.out
        have HA := any_step hlt HR2 hp
        cases hn : hasI a (wrap64 (-c[k]))
        · have HN : Hid ((0 : Int) = valTo c a (k + 1) ∧ (c.take (k + 1)).any (hasI a) = false) := ⟨(val_step_open hlt hn).symm, HA⟩
          clear HR HR1 HR2 HA
          go_wp2_with (go_at_call 172; (first | (with_reducible refine (l2Has_at hy hp).mono ?_) | (with_reducible refine (l2Has_at hy hn).mono ?_)); rintro e w1 ⟨rfl, rfl⟩)
          go_roundw
          case rel => exact ⟨k + 1, 0, by omega, rfl, by go_num, HN, by first | rfl | trivial⟩
          case measure => simp [intOf]; omega
        · have HN : Hid (z = valTo c a (k + 1) ∧ (c.take (k + 1)).any (hasI a) = false) := ⟨by rw [val_step_off hlt hn]; exact HR1, HA⟩
          clear HR HR1 HR2 HA
          go_wp2_with (go_at_call 172; (first | (with_reducible refine (l2Has_at hy hp).mono ?_) | (with_reducible refine (l2Has_at hy hn).mono ?_)); rintro e w1 ⟨rfl, rfl⟩)
          go_roundw
          case rel => exact ⟨k + 1, z, by omega, rfl, by go_num, HN, by first | rfl | trivial⟩
          case measure => simp [intOf]; omega
      · have HN : Hid (valB c a = 1) := val_true hlt hp
        clear HR
        go_wp2_with (go_at_call 172; with_reducible refine (l2Has_at hy hp).mono ?_; rintro e w1 ⟨rfl, rfl⟩)
        go_ret
        exact ⟨ret_int HN.out.symm, rfl⟩
    · obtain rfl : k = c.length := by omega
      have HN : Hid (valB c a = z) := by
        obtain ⟨h1, h2⟩ := HR.out
        rw [List.take_length] at h2
        unfold Hid valB
        rw [h2, h1]
        rfl
      clear HR
      go_wp2_with fail
      go_ret
      exact ⟨ret_int HN.out.symm, rfl⟩

set_option maxHeartbeats 1000000 in
theorem clauseValue_any (v u : Value) (c a : List Int) (F G : List Nat) (w : World) (hx : Ty.int.row false w v c F) (hy : Ty.int.row false w u a G) :
    Calls Try.prog 150 #[v, u] w fun e w' => e = .returned (.int .i64 (valB c a)) ∧ w = w' := by
  obtain ⟨ad, cap, rfl, hx1, hx2, _, hx3⟩ := row_int hx
  go_enter Try.func150, Try.ntmps150
  go_wp2_with fail
  go_loopw [5, 10] (fun s i wr => ∃ (k : Nat) (z : Int), k ≤ c.length ∧ s = .int .i64 z ∧ i = .int .i64 k ∧ Hid (z = valTo c a k ∧ (c.take k).any (hasI a) = false) ∧ w = wr) (fun _ i _ => c.length - (intOf i).toNat)
  case atStart => exact ⟨0, -1, Nat.zero_le _, rfl, rfl, by simp [Hid, valTo], rfl⟩
  case round =>
    obtain ⟨k, z, hk, rfl, rfl, HR, rfl⟩ := hrel
    by_cases hlt : k < c.length
    · rcases hx3 with ⟨rfl, rfl⟩ | ⟨hxn, b, off, rfl, rfl, hxc⟩
      · exact absurd hlt (by simp)
      have k0 := (hxc k hlt).1
      cases hp : hasI a c[k]
      · obtain ⟨HR1, HR2⟩ := HR.out
        have HA := any_step hlt HR2 hp
        cases hn : hasI a (wrap64 (-c[k]))
        · have HN : Hid ((0 : Int) = valTo c a (k + 1) ∧ (c.take (k + 1)).any (hasI a) = false) := ⟨(val_step_open hlt hn).symm, HA⟩
          clear HR HR1 HR2 HA
          go_wp2_with (go_at_call 67; (first | (with_reducible refine (containsInt_at hy hp).mono ?_) | (with_reducible refine (containsInt_at hy hn).mono ?_)); rintro e w1 ⟨rfl, rfl⟩)
          go_roundw
          case rel => exact ⟨k + 1, 0, by omega, rfl, by go_num, HN, by first | rfl | trivial⟩
          case measure => simp [intOf]; omega
        · have HN : Hid (z = valTo c a (k + 1) ∧ (c.take (k + 1)).any (hasI a) = false) := ⟨by rw [val_step_off hlt hn]; exact HR1, HA⟩
          clear HR HR1 HR2 HA
          go_wp2_with (go_at_call 67; (first | (with_reducible refine (containsInt_at hy hp).mono ?_) | (with_reducible refine (containsInt_at hy hn).mono ?_)); rintro e w1 ⟨rfl, rfl⟩)
          go_roundw
          case rel => exact ⟨k + 1, z, by omega, rfl, by go_num, HN, by first | rfl | trivial⟩
          case measure => simp [intOf]; omega
      · have HN : Hid (valB c a = 1) := val_true hlt hp
        clear HR
        go_wp2_with (go_at_call 67; with_reducible refine (containsInt_at hy hp).mono ?_; rintro e w1 ⟨rfl, rfl⟩)
        go_ret
        exact ⟨ret_int HN.out.symm, rfl⟩
    · obtain rfl : k = c.length := by omega
      have HN : Hid (valB c a = z) := by
        obtain ⟨h1, h2⟩ := HR.out
        rw [List.take_length] at h2
        unfold Hid valB
        rw [h2, h1]
        rfl
      clear HR
      go_wp2_with fail
      go_ret
      exact ⟨ret_int HN.out.symm, rfl⟩
end Go.Proofs.Ytkgfgheiabapoaa
