/- Contracts: valid inequalities, in the reference. -/
import Derived.Test.YtcdgpekefiplnaaPnJ
namespace Go.Proofs.Ytcdgpekefiplnaa
open Go.RowKit

theorem l1In_at {x a b : Int} {q : Bool} (h : inB x a b = q) (w : World) : Calls Try.prog 34 #[.int .i64 x, .int .i64 a, .int .i64 b] w fun e w' => e = .returned (.bool q) ∧ w = w' := h ▸ l1In_any x a b w
theorem l2Vars_at {x : Int} {q : Bool} (h : inB x 0 12 = q) (w : World) : Calls Try.prog 54 #[.int .i64 x] w fun e w' => e = .returned (.bool q) ∧ w = w' := h ▸ l2Vars_any x w
def planeB (vars b : Int) (cs : List Int) : Bool := decide ((cs.length : Int) = vars) && inB b (-10000) 10000 && cs.all coefB
theorem plane_good (vars b : Int) (cs : List Int) : goodQ vars b cs = (inB vars 0 12 && planeB vars b cs) := by
  unfold goodQ planeB
  cases inB vars 0 12 <;> simp
theorem coef_step {cs : List Int} {k : Nat} (hk : k < cs.length) (h0 : (cs.take k).all coefB = true) (h : coefB cs[k] = true) : (cs.take (k + 1)).all coefB = true := by
  rw [List.take_succ_eq_append_getElem hk, List.all_append, h0]
  simp [h]
theorem coef_no {cs : List Int} {k : Nat} (hk : k < cs.length) (h : coefB cs[k] = false) : cs.all coefB = false := by
  rw [Bool.eq_false_iff]
  intro h2
  rw [List.all_eq_true] at h2
  rw [h2 _ (List.getElem_mem hk)] at h
  cases h

set_option maxRecDepth 100000 in
set_option maxHeartbeats 2000000 in
theorem l16Plane_any (vars b : Int) (cs : List Int) (A : Option Addr) (cap : Nat) (w : World) (hx : IntsAt w A cs) (hl : cs.length ≤ 1000000) :
    Calls Try.prog 55 #[.int .i64 vars, .agg #[.slice A cs.length cap, .int .i64 b]] w fun e w' => e = .returned (.bool (planeB vars b cs)) ∧ Below w.heap.size w w' := by
  have S0 := (Sp.start w).alloc_box #[.slice A cs.length cap, .int .i64 b] 26
  have hB0 := S0.below
  replace S0 := Lib.hid S0
  obtain ⟨Q, hQ⟩ : ∃ Q, planeB vars b cs = Q := ⟨_, rfl⟩
  rw [hQ]
  unfold planeB at hQ
  by_cases h1 : (cs.length : Int) = vars
  case neg =>
    have hR : Hid (Q = false) := by rw [← hQ, decide_eq_false h1]; rfl
    have hne : ((cs.length : Int) != vars) = true := by rw [bne_iff_ne]; exact h1
    clear hx S0 hQ
    go_enter Try.func55, Try.ntmps55
    go_wp2_with fail
    go_ret
    exact ⟨ret_bool hR.out.symm, hB0⟩
  have hne : ((cs.length : Int) != vars) = false := by rw [bne_eq_false_iff_eq]; exact h1
  rw [decide_eq_true h1] at hQ
  cases h2 : inB b (-10000) 10000
  · have hR : Hid (Q = false) := by rw [← hQ, h2]; rfl
    clear hx S0 hQ
    go_enter Try.func55, Try.ntmps55
    go_wp2_with fail
    refine (l1In_at h2 _).mono ?_
    rintro e w1 ⟨rfl, rfl⟩
    go_wp2_with fail
    go_ret
    exact ⟨ret_bool hR.out.symm, hB0⟩
  rw [h2, Bool.true_and, Bool.true_and] at hQ
  replace hQ := Lib.hid hQ
  have hI := Lib.hid hx
  subst h1
  clear hx hB0
  go_enter Try.func55, Try.ntmps55
  go_wp2_with fail
  refine (l1In_at h2 _).mono ?_
  rintro e w1 ⟨rfl, rfl⟩
  go_wp2_with fail
  go_loopw [5] (fun i wr => ∃ k : Nat, k ≤ cs.length ∧ i = .int .i64 k ∧ Hid ((cs.take k).all coefB = true) ∧ Hid (Sp w wr [Box w.heap.size 26 #[.slice A cs.length cap, .int .i64 b]])) (fun i _ => cs.length - (intOf i).toNat)
  case atStart => exact ⟨0, Nat.zero_le _, rfl, rfl, S0⟩
  case round =>
    obtain ⟨k, hk, rfl, HD, HS⟩ := hrel
    clear S0
    by_cases hlt : k < cs.length
    · obtain ⟨ab, off, rfl, m0⟩ := (hI.out.grow HS.out.below).at_ k hlt
      have c0 := HS.out.cell (i := 0) rfl (o := 0) rfl
      cases hq : coefB cs[k]
      · have hR : Hid (Q = false) := by rw [← hQ.out]; exact coef_no hlt hq
        unfold coefB at hq
        generalize cs[k] = x at *
        have hB := HS.out.below
        clear HS
        go_wp2_with fail
        refine (l1In_at hq _).mono ?_
        rintro e w1 ⟨rfl, rfl⟩
        go_wp2_with fail
        go_ret
        exact ⟨ret_bool hR.out.symm, hB⟩
      · have hD := Lib.hid (coef_step hlt HD.out hq)
        unfold coefB at hq
        generalize cs[k] = x at *
        clear HD
        go_wp2_with fail
        refine (l1In_at hq _).mono ?_
        rintro e w1 ⟨rfl, rfl⟩
        go_wp2_with fail
        go_roundw
        case rel => exact ⟨k + 1, by omega, by go_num, hD, HS⟩
        case measure => simp [intOf]; omega
    · obtain rfl : k = cs.length := by omega
      have hR : Hid (Q = true) := by rw [← hQ.out]; have := HD.out; rwa [List.take_length] at this
      have hB := HS.out.below
      clear HS HD
      go_wp2_with fail
      go_ret
      exact ⟨ret_bool hR.out.symm, hB⟩

set_option maxRecDepth 100000 in
set_option maxHeartbeats 2000000 in
theorem specIsInequality_any (vars b : Int) (cs : List Int) (A : Option Addr) (cap : Nat) (w : World) (hx : IntsAt w A cs) (hl : cs.length ≤ 1000000) :
    Calls Try.prog 27 #[.int .i64 vars, .agg #[.slice A cs.length cap, .int .i64 b]] w fun e w' => e = .returned (.bool (goodQ vars b cs)) ∧ Below w.heap.size w w' := by
  have hB := bal (bb w) (.cells #[.slice A cs.length cap, .int .i64 b] 26)
  have hcall := Lib.hid (l16Plane_any vars b cs A cap _ (hx.grow hB) hl)
  have hR := Lib.hid (plane_good vars b cs)
  generalize planeB vars b cs = q at *
  cases h1 : inB vars 0 12
  · rw [h1] at hR
    clear hx
    go_enter Try.func27, Try.ntmps27
    go_wp2_with fail
    refine (l2Vars_at h1 _).mono ?_
    rintro e w1 ⟨rfl, rfl⟩
    go_wp2_with fail
    go_ret
    exact ⟨ret_bool (by rw [hR.out]; rfl), hB⟩
  · rw [h1] at hR
    clear hx
    go_enter Try.func27, Try.ntmps27
    go_wp2_with fail
    refine (l2Vars_at h1 _).mono ?_
    rintro e w1 ⟨rfl, rfl⟩
    go_wp2_with fail
    refine hcall.out.mono ?_
    rintro e w1 ⟨rfl, hb1⟩
    have hB2 := btr hB hb1
    clear hcall hb1 hB
    go_wp2_with fail
    go_ret
    exact ⟨ret_bool (by rw [hR.out]; rfl), hB2⟩

/-- A quotient is rounded up, another way. -/
theorem up_eq2 (a k : Int) (hk : 0 < k) : (if 0 < a then (a + k - 1).tdiv k else -((-a).tdiv k)) = upQ a k := by
  unfold upQ
  by_cases h : 0 < a
  · rw [if_pos h, Int.tdiv_eq_ediv_of_nonneg (by omega)]
    generalize hm : (-a) / k = m
    generalize hp : (a + k - 1) / k = p
    have u1 : m * k ≤ -a := by rw [← Int.le_ediv_iff_mul_le hk, hm]; omega
    have u2 : -a < (m + 1) * k := by rw [← Int.ediv_lt_iff_lt_mul hk, hm]; omega
    rw [Int.add_mul, Int.one_mul] at u2
    have u3 : -m ≤ p := by rw [← hp, Int.le_ediv_iff_mul_le hk, Int.neg_mul]; omega
    have u4 : p < -m + 1 := by rw [← hp, Int.ediv_lt_iff_lt_mul hk, Int.add_mul, Int.neg_mul, Int.one_mul]; omega
    omega
  · rw [if_neg h, Int.tdiv_eq_ediv_of_nonneg (by omega)]
set_option maxRecDepth 100000 in
theorem l16Up_any (a k : Int) (hk : 2 ≤ k ∧ k ≤ 1000) (ha : Near a) (w : World) : Calls Try.prog 60 #[.int .i64 a, .int .i64 k] w fun e w' => e = .returned (.int .i64 (upQ a k)) ∧ w = w' := by
  have hR := Lib.hid (up_eq2 a k (by omega)).symm
  unfold Near at ha
  have hk0 : (k == 0) = false := by rw [beq_eq_false_iff_ne]; omega
  have hk1 : (k == -1) = false := by rw [beq_eq_false_iff_ne]; omega
  have hd1 := tdiv_near (a := a + k - 1) (k := k) (m := 20000) (by omega)
  have hd2 := tdiv_near (a := a) (k := k) (m := 20000) (by omega)
  have hw1 : wrap64 ((a + k - 1).tdiv k) = (a + k - 1).tdiv k := IntWalk.wrap64_in _ (by omega)
  have hw2 : wrap64 (-(a.tdiv k)) = -(a.tdiv k) := IntWalk.wrap64_in _ (by omega)
  have hw4 : wrap64 (a.tdiv k) = a.tdiv k := IntWalk.wrap64_in _ (by omega)
  by_cases hr : 0 < a
  · rw [if_pos hr] at hR
    go_enter Try.func60, Try.ntmps60
    go_wp2_with fail
    go_ret
    exact ⟨ret_int hR.out.symm, rfl⟩
  · rw [if_neg hr, Int.neg_tdiv, Int.neg_neg] at hR
    go_enter Try.func60, Try.ntmps60
    go_wp2_with fail
    go_ret
    exact ⟨ret_int hR.out.symm, rfl⟩
end Go.Proofs.Ytcdgpekefiplnaa
