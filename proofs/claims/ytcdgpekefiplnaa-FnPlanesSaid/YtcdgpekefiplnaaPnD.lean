/- Contracts: the values and the range of an inequality, in the program. -/
import Derived.Test.YtcdgpekefiplnaaPnC
namespace Go.Proofs.Ytcdgpekefiplnaa
open Go.RowKit

set_option maxRecDepth 100000 in
set_option maxHeartbeats 1000000 in
theorem bitsOk12_any (n : Nat) (hn : n ≤ 12) (m : Nat) (w : World) : Calls Try.prog 38 #[.int .i64 n, .int .i64 m] w fun e w' => e = .returned (.bool (decide (m < 2 ^ n))) ∧ w = w' := by
  obtain ⟨hsh, hp⟩ := pow12 hn
  have hN1 : 1 ≤ 2 ^ n := Nat.one_le_two_pow
  have hin : inB (m : Int) 0 (((2 ^ n : Nat) : Int) - 1) = decide (m < 2 ^ n) := by
    unfold inB
    by_cases h : m < 2 ^ n
    · rw [decide_eq_true h, decide_eq_true (show (0 : Int) ≤ m by omega), decide_eq_true (show (m : Int) ≤ ((2 ^ n : Nat) : Int) - 1 by omega)]; rfl
    · rw [decide_eq_false h, decide_eq_false (show ¬ (m : Int) ≤ ((2 ^ n : Nat) : Int) - 1 by omega)]; simp
  generalize decide (m < 2 ^ n) = q at *
  generalize 2 ^ n = N at *
  go_enter Try.func38, Try.ntmps38
  go_wp2_with fail
  try rw [hsh]
  refine (within_at hin _).mono ?_
  rintro e w1 ⟨rfl, rfl⟩
  go_wp2_with fail
  go_ret
  exact ⟨rfl, rfl⟩

set_option maxRecDepth 100000 in
set_option maxHeartbeats 1000000 in
theorem holdsAt_any (n : Nat) (b : Int) (cs : List Int) (hg : goodQ n b cs = true) (m : Nat) (hm : m < 2 ^ n) (A : Option Addr) (cap : Nat) (w : World) (hx : IntsAt w A cs) :
    Calls Try.prog 15 #[.int .i64 n, .agg #[.slice A cs.length cap, .int .i64 b], .int .i64 m] w fun e w' => e = .returned (.tuple #[.bool (holdsQ cs b m), .bool true]) ∧ Below w.heap.size w w' := by
  obtain ⟨hv, hln, hb, hc⟩ := good_q hg
  have S0 := (Sp.start w).alloc_box #[.slice A cs.length cap, .int .i64 b] 26
  have c0 := S0.cell (i := 0) rfl (o := 0) rfl
  have c1 := S0.cell (i := 0) rfl (o := 1) rfl
  have h1 := isInequality_any n b cs A cap _ (hx.grow S0.below) (by omega)
  rw [hg] at h1
  have h2 := bitsOk12_any n (by omega) m
  rw [decide_eq_true hm] at h2
  have h3 := fun W h => planeHolds_any cs b m (Nat.lt_of_lt_of_le hm (Nat.pow_le_pow_right (by decide) (by omega))) A cap W (hx.grow h) (by omega) hc
  generalize holdsQ cs b m = q at *
  replace h1 := Lib.hid h1
  replace h2 := Lib.hid h2
  replace h3 := Lib.hid h3
  replace S0 := Lib.hid S0
  clear hx hg hm hc
  go_enter Try.func15, Try.ntmps15
  go_wp2_with fail
  refine h1.out.mono ?_
  rintro e w1 ⟨rfl, hb1⟩
  have S1 := Lib.hid (S0.out.grow hb1)
  have c2 := S1.out.cell (i := 0) rfl (o := 0) rfl
  have c3 := S1.out.cell (i := 0) rfl (o := 1) rfl
  clear S0 h1 hb1 c0 c1
  go_wp2_with fail
  refine (h2.out _).mono ?_
  rintro e w2 ⟨rfl, rfl⟩
  clear h2
  go_wp2_with fail
  refine (h3.out _ S1.out.below).mono ?_
  rintro e w2 ⟨rfl, hb2⟩
  have hB := (S1.out.grow hb2).below
  clear h3 S1 hb2
  go_wp2_with fail
  go_ret2
  exact ⟨rfl, hB⟩

/-- The number of the bits at which something holds. -/
def cntP (p : Nat → Bool) (k : Nat) : Nat := ((List.range k).filter p).length
theorem cntP_no {p : Nat → Bool} {k : Nat} (h : p k = false) : cntP p (k + 1) = cntP p k := by simp [cntP, List.range_succ, List.filter_append, h]
theorem cntP_yes {p : Nat → Bool} {k : Nat} (h : p k = true) : cntP p (k + 1) = cntP p k + 1 := by simp [cntP, List.range_succ, List.filter_append, h]
theorem cntP_le (p : Nat → Bool) (k : Nat) : cntP p k ≤ k := Nat.le_trans (List.length_filter_le _ _) (by simp)

set_option maxRecDepth 100000 in
set_option maxHeartbeats 1000000 in
theorem countHolding_any (n : Nat) (b : Int) (cs : List Int) (hg : goodQ n b cs = true) (A : Option Addr) (cap : Nat) (w : World) (hx : IntsAt w A cs) :
    Calls Try.prog 19 #[.int .i64 n, .agg #[.slice A cs.length cap, .int .i64 b]] w fun e w' => e = .returned (.tuple #[.int .i64 (cntP (holdsQ cs b) (2 ^ n)), .bool true]) ∧ Below w.heap.size w w' := by
  obtain ⟨hv, hln, hb, hc⟩ := good_q hg
  have hn : n ≤ 12 := by omega
  have hl : cs.length ≤ 12 := by omega
  obtain ⟨hsh, hp⟩ := pow12 hn
  have S0 := (Sp.start w).alloc_box #[.slice A cs.length cap, .int .i64 b] 26
  have c0 := S0.cell (i := 0) rfl (o := 0) rfl
  have c1 := S0.cell (i := 0) rfl (o := 1) rfl
  have h1 := isInequality_any n b cs A cap _ (hx.grow S0.below) (by omega)
  rw [hg] at h1
  replace h1 := Lib.hid h1
  replace S0 := Lib.hid S0
  have hxH := Lib.hid hx
  have hcH := Lib.hid hc
  have hcl := Lib.hid (fun k => cntP_le (holdsQ cs b) k)
  generalize hN : 2 ^ n = N at *
  clear hx hg hc hN
  go_enter Try.func19, Try.ntmps19
  go_wp2_with fail
  refine h1.out.mono ?_
  rintro e w1 ⟨rfl, hb1⟩
  have S1 : Hid (Sp w w1 [Box w.heap.size 26 #[.slice A cs.length cap, .int .i64 b]]) := Lib.hid (S0.out.grow hb1)
  clear S0 h1 hb1 c0 c1
  go_wp2_with fail
  rw [hsh]
  go_loopw [6, 14] (fun c i wr => ∃ k : Nat, k ≤ N ∧ i = .int .i64 k ∧ c = .int .i64 (cntP (holdsQ cs b) k) ∧ Hid (Sp w wr [Box w.heap.size 26 #[.slice A cs.length cap, .int .i64 b]])) (fun _ i _ => N - (intOf i).toNat)
  case atStart => exact ⟨0, Nat.zero_le _, rfl, rfl, S1⟩
  case round =>
    obtain ⟨k, hk, rfl, rfl, HS⟩ := hrel
    clear S1
    by_cases hlt : k < N
    · have d0 := HS.out.cell (i := 0) rfl (o := 0) rfl
      have d1 := HS.out.cell (i := 0) rfl (o := 1) rfl
      have h3 := Lib.hid (planeHolds_any cs b k (Nat.lt_of_lt_of_le hlt (Nat.le_trans hp (by decide))) A cap wr (hxH.out.grow HS.out.below) hl hcH.out)
      have hc1 := hcl.out k
      cases hq : holdsQ cs b k
      · rw [hq] at h3
        have hcn := Lib.hid (cntP_no hq)
        generalize cntP (holdsQ cs b) k = c at *
        clear hq hc1
        go_wp2_with fail
        refine h3.out.mono ?_
        rintro e w2 ⟨rfl, hb2⟩
        have S2 := Lib.hid (HS.out.grow hb2)
        clear h3 HS hb2 d0 d1
        go_wp2_with fail
        go_roundw
        case rel => exact ⟨k + 1, by omega, by go_num, by rw [hcn.out], S2⟩
        case measure => simp [intOf]; omega
      · rw [hq] at h3
        have hcn := Lib.hid (cntP_yes hq)
        generalize cntP (holdsQ cs b) k = c at *
        have hwc : IntKind.i64.wrap ((c : Int) + 1) = (c : Int) + 1 := IntWalk.i64_in _ (by omega)
        clear hq hc1
        go_wp2_with fail
        refine h3.out.mono ?_
        rintro e w2 ⟨rfl, hb2⟩
        have S2 := Lib.hid (HS.out.grow hb2)
        clear h3 HS hb2 d0 d1
        go_wp2_with fail
        go_roundw
        case rel => exact ⟨k + 1, by omega, by go_num, by rw [hcn.out]; rfl, S2⟩
        case measure => simp [intOf]; omega
    · have hge : ¬ (k : Int) < (N : Int) := by omega
      obtain rfl : k = N := by omega
      have hB := HS.out.below
      clear HS
      go_wp2_with fail
      exact bodyPost_ret (v := .tuple #[.int .i64 (cntP (holdsQ cs b) k), .bool true]) (by simp [results, Try.results19, go_sem]) rfl ⟨rfl, hB⟩

theorem lowK_bound {cs : List Int} {m : Int} (hm : 0 ≤ m) (h : ∀ c ∈ cs, -m ≤ c ∧ c ≤ m) : ∀ k : Nat, -(m * k) ≤ lowK cs k ∧ lowK cs k ≤ 0
  | 0 => by simp [lowK]
  | k + 1 => by
    have h1 := lowK_bound hm h k
    have h2 := getD_bound hm h k
    have e : m * ((k + 1 : Nat) : Int) = m * k + m := by rw [Int.natCast_add, Int.mul_add]; simp
    rw [e]
    simp only [lowK]
    split <;> omega
theorem highK_bound {cs : List Int} {m : Int} (hm : 0 ≤ m) (h : ∀ c ∈ cs, -m ≤ c ∧ c ≤ m) : ∀ k : Nat, 0 ≤ highK cs k ∧ highK cs k ≤ m * k
  | 0 => by simp [highK]
  | k + 1 => by
    have h1 := highK_bound hm h k
    have h2 := getD_bound hm h k
    have e : m * ((k + 1 : Nat) : Int) = m * k + m := by rw [Int.natCast_add, Int.mul_add]; simp
    rw [e]
    simp only [highK]
    split <;> omega

set_option maxRecDepth 100000 in
set_option maxHeartbeats 1000000 in
theorem leftRange_any (n : Nat) (b : Int) (cs : List Int) (hg : goodQ n b cs = true) (A : Option Addr) (cap : Nat) (w : World) (hx : IntsAt w A cs) :
    Calls Try.prog 21 #[.int .i64 n, .agg #[.slice A cs.length cap, .int .i64 b]] w fun e w' => e = .returned (.tuple #[.int .i64 (lowK cs cs.length), .int .i64 (highK cs cs.length), .bool true]) ∧ Below w.heap.size w w' := by
  obtain ⟨hv, hln, hb, hc⟩ := good_q hg
  have hl : cs.length ≤ 12 := by omega
  have S0 := (Sp.start w).alloc_box #[.slice A cs.length cap, .int .i64 b] 26
  have c0 := S0.cell (i := 0) rfl (o := 0) rfl
  have c1 := S0.cell (i := 0) rfl (o := 1) rfl
  have h1 := isInequality_any n b cs A cap _ (hx.grow S0.below) (by omega)
  rw [hg] at h1
  replace h1 := Lib.hid h1
  replace S0 := Lib.hid S0
  have hxH := Lib.hid hx
  have hcH := Lib.hid hc
  have hlo := Lib.hid (fun k => lowK_bound (by decide : (0 : Int) ≤ 1000) hc k)
  have hhi := Lib.hid (fun k => highK_bound (by decide : (0 : Int) ≤ 1000) hc k)
  clear hx hg hc
  go_enter Try.func21, Try.ntmps21
  go_wp2_with fail
  refine h1.out.mono ?_
  rintro e w1 ⟨rfl, hb1⟩
  have S1 : Hid (Sp w w1 [Box w.heap.size 26 #[.slice A cs.length cap, .int .i64 b]]) := Lib.hid (S0.out.grow hb1)
  have d0 := S1.out.cell (i := 0) rfl (o := 0) rfl
  clear S0 h1 hb1 c0 c1
  go_wp2_with fail
  go_loopw [7, 8, 18] (fun a z i wr => ∃ k : Nat, k ≤ cs.length ∧ i = .int .i64 k ∧ a = .int .i64 (lowK cs k) ∧ z = .int .i64 (highK cs k) ∧ Hid (Sp w wr [Box w.heap.size 26 #[.slice A cs.length cap, .int .i64 b]])) (fun _ _ i _ => cs.length - (intOf i).toNat)
  case atStart => exact ⟨0, Nat.zero_le _, rfl, rfl, rfl, S1⟩
  case round =>
    obtain ⟨k, hk, rfl, rfl, rfl, HS⟩ := hrel
    clear S1 d0
    by_cases hlt : k < cs.length
    · obtain ⟨ab, off, rfl, m0⟩ := (hxH.out.grow HS.out.below).at_ k hlt
      have hg : cs.getD k 0 = cs[k] := by simp [List.getD_eq_getElem?_getD, hlt]
      have hcb := hcH.out _ (List.getElem_mem hlt)
      have hb1 := hlo.out k
      have hb2 := hhi.out k
      have hs1 : lowK cs (k + 1) = lowK cs k + min cs[k] 0 := by
        simp only [lowK, hg]
        split <;> omega
      have hs2 : highK cs (k + 1) = highK cs k + max cs[k] 0 := by
        simp only [highK, hg]
        split <;> omega
      generalize lowK cs k = s at *
      generalize highK cs k = t at *
      generalize cs[k] = x at *
      have hwa : IntKind.i64.wrap (s + min x 0) = s + min x 0 := IntWalk.i64_in _ (by omega)
      have hwb : IntKind.i64.wrap (t + max x 0) = t + max x 0 := IntWalk.i64_in _ (by omega)
      replace hs1 := Lib.hid hs1
      replace hs2 := Lib.hid hs2
      clear hb1 hb2 hg hcb
      go_wp2_with fail
      go_roundw
      case rel => exact ⟨k + 1, by omega, by go_num, by rw [hs1.out], by rw [hs2.out], HS⟩
      case measure => simp [intOf]; omega
    · have hge : ¬ (k : Int) < (cs.length : Int) := by omega
      obtain rfl : k = cs.length := by omega
      have hB := HS.out.below
      clear HS
      go_wp2_with fail
      exact bodyPost_ret (v := .tuple #[.int .i64 (lowK cs cs.length), .int .i64 (highK cs cs.length), .bool true]) (by simp [results, Try.results21, go_sem]) rfl ⟨rfl, hB⟩
end Go.Proofs.Ytcdgpekefiplnaa
