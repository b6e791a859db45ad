/- Contracts: polynomials in the reference. -/
import Derived.Test.YtebhkfhdjdgokaaPolB
namespace Go.Proofs.Ytebhkfhdjdgokaa
open Go.RowKit

theorem l1In_at {x a b : Int} {q : Bool} (h : inB x a b = q) (w : World) : Calls Try.prog 51 #[.int .i64 x, .int .i64 a, .int .i64 b] w fun e w' => e = .returned (.bool q) ∧ Below w.heap.size w w' :=
  h ▸ (l1In_any x a b w).mono fun _ _ ⟨h1, h2⟩ => ⟨h1, h2 ▸ bb _⟩

set_option maxHeartbeats 400000 in
theorem l18Prime_any (p vars : Int) (w : World) : Calls Try.prog 67 #[.int .i64 p, .int .i64 vars] w fun e w' => e = .returned (.bool (primeB p vars)) ∧ w = w' := by
  by_cases h : p = 2 ∨ p = 3 ∨ p = 5
  · have hR : Hid (primeB p vars = inB vars 0 6) := by unfold Hid primeB; rcases h with rfl | rfl | rfl <;> rfl
    rcases h with rfl | rfl | rfl
    all_goals
      go_enter Try.func67, Try.ntmps67
      go_wp2_with fail
      refine (l1In_any _ _ _ _).mono ?_
      rintro e w1 ⟨rfl, rfl⟩
      go_wp2_with fail
      go_ret
      exact ⟨ret_bool hR.out.symm, rfl⟩
  · have h2 : (p == 2) = false := by rw [beq_eq_false_iff_ne]; omega
    have h3 : (p == 3) = false := by rw [beq_eq_false_iff_ne]; omega
    have h5 : (p == 5) = false := by rw [beq_eq_false_iff_ne]; omega
    have hR : Hid (primeB p vars = false) := by unfold Hid primeB; rw [h2, h3, h5]; rfl
    go_enter Try.func67, Try.ntmps67
    go_wp2_with fail
    go_ret
    exact ⟨ret_bool hR.out.symm, rfl⟩

set_option maxHeartbeats 400000 in
theorem l14Count_any (x : Nat) (w : World) (hx : x < 64) : Calls Try.prog 69 #[.int .i64 x] w fun e w' => e = .returned (.int .i64 (popI x)) ∧ w = w' := by
  go_enter Try.func69, Try.ntmps69
  go_wp2_with fail
  go_loop [0, 3] (fun p n => ∃ m t : Nat, p = .int .i64 m ∧ n = .int .i64 t ∧ m < 64 ∧ t ≤ 100 ∧ Hid (t + Lib.onesCount m = Lib.onesCount x)) (fun p _ => (intOf p).toNat)
  case atStart => exact ⟨x, 0, rfl, rfl, hx, by decide, by simp [Hid]⟩
  case round =>
    obtain ⟨m, t, rfl, rfl, hm, ht, HR⟩ := hrel
    by_cases hlt : 0 < m
    · have hlt' : (0 : Int) < (m : Int) := by omega
      have HS : Hid (t + m % 2 + Lib.onesCount (m / 2) = Lib.onesCount x) := by unfold Hid; rw [← HR.out, pop_half hm]; omega
      have hp : Lib.onesCount x ≤ 6 := pop_le64 ⟨x, hx⟩
      have ht2 : t + m % 2 ≤ 6 := by have := HS.out; omega
      go_wp2_with fail
      go_round
      case rel => exact ⟨m / 2, t + m % 2, by simp, by simp, by omega, by omega, HS⟩
      case measure => simp [intOf]; omega
    · obtain rfl : m = 0 := by omega
      have HS : Hid ((t : Int) = popI x) := by
        unfold Hid popI
        have h := HR.out
        have h0 : Lib.onesCount 0 = 0 := by decide
        rw [h0] at h
        rw [Int.toNat_natCast]; omega
      go_wp2_with fail
      go_ret
      exact ⟨ret_int HS.out, rfl⟩
theorem l14Count_at {m : Int} (h0 : 0 ≤ m) (h1 : m < 64) (w : World) : Calls Try.prog 69 #[.int .i64 m] w fun e w' => e = .returned (.int .i64 (popI m)) ∧ w = w' := by
  obtain ⟨x, rfl⟩ := Int.eq_ofNat_of_zero_le h0
  exact l14Count_any x w (by omega)

set_option maxHeartbeats 400000 in
theorem l1Most_any (a b : Int) (w : World) : Calls Try.prog 68 #[.int .i64 a, .int .i64 b] w fun e w' => e = .returned (.int .i64 (max a b)) ∧ w = w' := by
  by_cases h : b < a
  · have hm : Hid (max a b = a) := by unfold Hid; omega
    go_enter Try.func68, Try.ntmps68
    go_wp2_with fail
    go_ret
    exact ⟨ret_int hm.out.symm, rfl⟩
  · have hm : Hid (max a b = b) := by unfold Hid; omega
    go_enter Try.func68, Try.ntmps68
    go_wp2_with fail
    go_ret
    exact ⟨ret_int hm.out.symm, rfl⟩

/-- All monomials of some terms are small. -/
def smallM (xs : List (Int × Int)) : Prop := ∀ x ∈ xs, 0 ≤ x.1 ∧ x.1 < 64
theorem smallM_of {p vars : Int} {xs : List (Int × Int)} (h : polyB p vars xs = true) : smallM xs := by
  unfold polyB at h
  rw [Bool.and_eq_true] at h
  intro x hx
  obtain ⟨k, hk, rfl⟩ := List.getElem_of_mem hx
  have h1 := terms_facts h.2 k hk
  have h2 := monoN_le (primeB_facts h.1).2.2.2
  omega

set_option maxHeartbeats 1000000 in
theorem l18Degree_any (v : Value) (xs : List (Int × Int)) (F : List Nat) (w : World) (hx : tmTy.row false w v xs F) (hs : smallM xs) :
    Calls Try.prog 31 #[v] w fun e w' => e = .returned (.int .i64 (degS xs)) ∧ Below w.heap.size w w' := by
  obtain ⟨a, c, rfl, hx1, hx2, _, hx3⟩ := row_tm hx
  go_enter Try.func31, Try.ntmps31
  go_wp2_with fail
  go_loopw [3, 4] (fun d i wr => ∃ k : Nat, k ≤ xs.length ∧ i = .int .i64 k ∧ d = .int .i64 (degS (xs.take k)) ∧ Below w.heap.size w wr) (fun _ i _ => xs.length - (intOf i).toNat)
  case atStart => exact ⟨0, Nat.zero_le _, rfl, rfl, bb _⟩
  case round =>
    obtain ⟨k, hk, rfl, rfl, hB⟩ := hrel
    by_cases hlt : k < xs.length
    · rcases hx3 with ⟨rfl, rfl⟩ | ⟨hxn, b, off, rfl, rfl, hxc⟩
      · exact absurd hlt (by simp)
      have k0 := ((hxc k hlt).1.keep (hB.block b (hxc k hlt).1.lt)).1
      have hsk := hs _ (List.getElem_mem hlt)
      have HS : Hid (degS (xs.take (k + 1)) = max (degS (xs.take k)) (popI xs[k].1)) := by unfold Hid; rw [List.take_succ_eq_append_getElem hlt, degS_snoc]
      generalize xs[k] = x at k0 hsk HS
      generalize degS (xs.take k) = D at HS ⊢
      obtain ⟨hs0, hs1⟩ := hsk
      clear hxc
      go_wp2_with fail
      refine (l14Count_at hs0 hs1 _).mono ?_
      rintro e w1 ⟨rfl, rfl⟩
      go_wp2_with fail
      refine (l1Most_any _ _ _).mono ?_
      rintro e w1 ⟨rfl, rfl⟩
      go_wp2_with fail
      go_roundw
      case rel => exact ⟨k + 1, by omega, by go_num, by rw [HS.out], hB⟩
      case measure => simp [intOf]; omega
    · obtain rfl : k = xs.length := by omega
      rw [List.take_length]
      go_wp2_with fail
      go_ret
      exact ⟨rfl, hB⟩

/-- The number of monomials as Go reckons it. -/
theorem mono_pow {vars : Int} (h0 : 0 ≤ vars) (h1 : vars ≤ 6) : ∃ N : Int, (monoN vars : Int) = N ∧ (2 : Int) ^ vars.toNat = N ∧ 1 ≤ N ∧ N ≤ 64 := by
  refine ⟨_, rfl, by unfold monoN; simp, ?_, ?_⟩
  · have := monoN_pos vars; omega
  · have := monoN_le h1; omega

set_option maxRecDepth 100000 in
set_option maxHeartbeats 2000000 in
theorem l18Good_any (p vars : Int) (v : Value) (xs : List (Int × Int)) (F : List Nat) (w : World) (hx : tmTy.row false w v xs F) :
    Calls Try.prog 30 #[.int .i64 p, .int .i64 vars, v] w fun e w' => e = .returned (.bool (polyB p vars xs)) ∧ Below w.heap.size w w' := by
  obtain ⟨a, c, rfl, hx1, hx2, _, hx3⟩ := row_tm hx
  cases hp : primeB p vars
  · have hd : Hid (polyB p vars xs = false) := by unfold Hid polyB; rw [hp]; rfl
    go_enter Try.func30, Try.ntmps30
    go_wp2_with fail
    refine (l18Prime_any _ _ _).mono ?_
    rw [hp]
    rintro e w1 ⟨rfl, rfl⟩
    go_wp2_with fail
    go_ret
    exact ⟨ret_bool hd.out.symm, bb _⟩
  have hd : Hid (polyB p vars xs = termsB p vars xs) := by unfold Hid polyB; rw [hp]; rfl
  obtain ⟨hp0, hp1, hv0, hv1⟩ := primeB_facts hp
  obtain ⟨N, hN0, hN, hN1, hN64⟩ := mono_pow hv0 hv1
  have hNw : IntKind.i64.wrap N = N := IntWalk.i64_in _ (by omega)
  have hNw1 : IntKind.i64.wrap (N - 1) = N - 1 := IntWalk.i64_in _ (by omega)
  have hpw1 : IntKind.i64.wrap (p - 1) = p - 1 := IntWalk.i64_in _ (by omega)
  replace hN0 := Lib.hid hN0
  go_enter Try.func30, Try.ntmps30
  go_wp2_with fail
  refine (l18Prime_any _ _ _).mono ?_
  rw [hp]
  rintro e w1 ⟨rfl, rfl⟩
  replace hp := Lib.hid hp
  go_wp2_with fail
  go_loopw [7] (fun i wr => ∃ k : Nat, k ≤ xs.length ∧ i = .int .i64 k ∧ Hid (tmOkTo p vars xs k = true) ∧ Below w.heap.size w wr) (fun i _ => xs.length - (intOf i).toNat)
  case atStart => exact ⟨0, Nat.zero_le _, rfl, by simp [Hid, tmOkTo], bb _⟩
  case round =>
    obtain ⟨k, hk, rfl, HR, hB⟩ := hrel
    by_cases hlt : k < xs.length
    · rcases hx3 with ⟨rfl, rfl⟩ | ⟨hxn, b, off, rfl, rfl, hxc⟩
      · exact absurd hlt (by simp)
      have k0 := cell_regrown ((hxc k hlt).1.keep (hB.block b (hxc k hlt).1.lt)).1
      have k1 := cell_regrown ((hxc k hlt).2.keep (hB.block b (hxc k hlt).2.lt)).1
      have hat := Lib.hid (tmOk_at p vars xs k hlt)
      rw [hN0.out] at hat
      have hno := Lib.hid (@terms_no p vars xs k hlt)
      have hst := Lib.hid fun h => terms_step HR.out h
      clear HR
      cases hq1 : inB xs[k].1 0 (N - 1)
      · have HN : Hid (polyB p vars xs = false) := by unfold Hid; rw [hd.out]; exact hno.out (by rw [hat.out, hq1]; rfl)
        clear hat hno hst
        go_wp2_with fail
        refine wp_region_quiet_below (by kernel_rfl) (by kernel_rfl) ?_
        repeat (any_goals (first | go_big_quiet_step ((go_at_call 51; exact Calls.regrown_of (l1In_at hq1 _)))))
        refine wpQuiet_nil ?_
        rintro w1 ⟨p', rfl⟩
        go_wp2_with fail
        go_ret
        exact ⟨ret_bool HN.out.symm, hB.trans ((below_regrown _ _ _).mono hB.size)⟩
      cases hq2 : inB xs[k].2 1 (p - 1)
      · have HN : Hid (polyB p vars xs = false) := by unfold Hid; rw [hd.out]; exact hno.out (by rw [hat.out, hq1, hq2]; rfl)
        clear hat hno hst
        go_wp2_with fail
        refine wp_region_quiet_below (by kernel_rfl) (by kernel_rfl) ?_
        repeat (any_goals (first | go_big_quiet_step ((go_at_call 51; first | (with_reducible exact Calls.regrown_of (l1In_at hq1 _)) | (with_reducible exact Calls.regrown_of (l1In_at hq2 _))))))
        refine wpQuiet_nil ?_
        rintro w1 ⟨p', rfl⟩
        go_wp2_with fail
        go_ret
        exact ⟨ret_bool HN.out.symm, hB.trans ((below_regrown _ _ _).mono hB.size)⟩
      rcases Nat.eq_zero_or_pos k with rfl | hpos
      · have HN : Hid (tmOkTo p vars xs (0 + 1) = true) := hst.out (by rw [hat.out, hq1, hq2]; rfl)
        simp only [Nat.zero_mul, Nat.add_zero, Nat.zero_add] at k0 k1
        clear hat hno hst
        go_wp2_with fail
        refine wp_region_quiet_below (by kernel_rfl) (by kernel_rfl) ?_
        repeat (any_goals (first | go_big_quiet_step ((go_at_call 51; first | (with_reducible exact Calls.regrown_of (l1In_at hq1 _)) | (with_reducible exact Calls.regrown_of (l1In_at hq2 _))))))
        refine wpQuiet_nil ?_
        rintro w1 ⟨p', rfl⟩
        go_wp2_with fail
        go_roundw
        case rel => exact ⟨0 + 1, by omega, by go_num, HN, hB.trans ((below_regrown _ _ _).mono hB.size)⟩
        case measure => simp [intOf]; omega
      have hj : k - 1 < xs.length := by omega
      have k2 := cell_regrown ((hxc (k - 1) hj).1.keep (hB.block b (hxc (k - 1) hj).1.lt)).1
      have hg : (0 : Int) < (k : Int) := by omega
      have hk0 : (k == 0) = false := by rw [beq_eq_false_iff_ne]; omega
      by_cases hc : xs[k - 1].1 < xs[k].1
      · have HN : Hid (tmOkTo p vars xs (k + 1) = true) := hst.out (by rw [hat.out, hq1, hq2, hk0, decide_eq_true hc]; rfl)
        clear hat hno hst hxc hk0
        go_wp2_with fail
        refine wp_region_quiet_below (by kernel_rfl) (by kernel_rfl) ?_
        repeat (any_goals (first | go_big_quiet_step ((go_at_call 51; first | (with_reducible exact Calls.regrown_of (l1In_at hq1 _)) | (with_reducible exact Calls.regrown_of (l1In_at hq2 _))))))
        refine wpQuiet_nil ?_
        rintro w1 ⟨p', rfl⟩
        go_wp2_with fail
        go_roundw
        case rel => exact ⟨k + 1, by omega, by go_num, HN, hB.trans ((below_regrown _ _ _).mono hB.size)⟩
        case measure => simp [intOf]; omega
      · have HN : Hid (polyB p vars xs = false) := by unfold Hid; rw [hd.out]; exact hno.out (by rw [hat.out, hq1, hq2, hk0, decide_eq_false hc]; rfl)
        clear hat hno hst hxc hk0
        go_wp2_with fail
        refine wp_region_quiet_below (by kernel_rfl) (by kernel_rfl) ?_
        repeat (any_goals (first | go_big_quiet_step ((go_at_call 51; first | (with_reducible exact Calls.regrown_of (l1In_at hq1 _)) | (with_reducible exact Calls.regrown_of (l1In_at hq2 _))))))
        refine wpQuiet_nil ?_
        rintro w1 ⟨p', rfl⟩
        go_wp2_with fail
        go_ret
        exact ⟨ret_bool HN.out.symm, hB.trans ((below_regrown _ _ _).mono hB.size)⟩
    · obtain rfl : k = xs.length := by omega
      have HN : Hid (polyB p vars xs = true) := by unfold Hid; rw [hd.out]; exact HR.out
      go_wp2_with fail
      go_ret
      exact ⟨ret_bool HN.out.symm, hB⟩

/-- What PolyDegree gives. -/
def degB (p vars : Int) (xs : List (Int × Int)) : Int × Bool := if polyB p vars xs then (degS xs, true) else (0, false)
set_option maxHeartbeats 1000000 in
theorem specPolyDegree_any (p vars : Int) (v : Value) (xs : List (Int × Int)) (F : List Nat) (w : World) (hx : tmTy.row false w v xs F) :
    Calls Try.prog 8 #[.int .i64 p, .int .i64 vars, v] w fun e w' => e = .returned (.tuple #[.int .i64 (degB p vars xs).1, .bool (degB p vars xs).2]) ∧ Below w.heap.size w w' := by
  obtain ⟨a, c, rfl, _, _⟩ := Ty.row_len hx
  have hxH := Lib.hid hx
  cases hq : polyB p vars xs
  · have hR : Hid (degB p vars xs = (0, false)) := by unfold Hid degB; rw [hq]; rfl
    go_enter Try.func8, Try.ntmps8
    go_wp2_with fail
    refine (l18Good_any p vars _ xs F _ hxH.out).mono ?_
    rw [hq]
    rintro e w1 ⟨rfl, hb1⟩
    go_wp2_with fail
    go_ret2
    exact ⟨by rw [hR.out]; rfl, hb1⟩
  · have hR : Hid (degB p vars xs = (degS xs, true)) := by unfold Hid degB; rw [hq]; rfl
    have hsm := Lib.hid (smallM_of hq)
    go_enter Try.func8, Try.ntmps8
    go_wp2_with fail
    refine (l18Good_any p vars _ xs F _ hxH.out).mono ?_
    rw [hq]
    rintro e w1 ⟨rfl, hb1⟩
    go_wp2_with fail
    refine (l18Degree_any _ xs F _ (Ty.row_grow hxH.out hb1) hsm.out).mono ?_
    rintro e w2 ⟨rfl, hb2⟩
    go_wp2_with fail
    go_ret2
    exact ⟨by rw [hR.out]; rfl, btr hb1 hb2⟩
end Go.Proofs.Ytebhkfhdjdgokaa
