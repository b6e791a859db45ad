/- Contracts: inequalities over bits, in the program. -/
import Derived.Test.YtcdgpekefiplnaaTrD
import Derived.Test.YtcdgpekefiplnaaPnA
namespace Go.Proofs.Ytcdgpekefiplnaa
open Go.RowKit

theorem within_at {x a b : Int} {q : Bool} (h : inB x a b = q) (w : World) : Calls Try.prog 32 #[.int .i64 x, .int .i64 a, .int .i64 b] w fun e w' => e = .returned (.bool q) ∧ w = w' := h ▸ within_any x a b w
theorem varsOk_at {x : Int} {q : Bool} (h : inB x 0 12 = q) (w : World) : Calls Try.prog 49 #[.int .i64 x] w fun e w' => e = .returned (.bool q) ∧ w = w' := h ▸ varsOk_any x w
theorem isInequality1_any (x : Int) (w : World) : Calls Try.prog 51 #[.int .i64 x] w fun e w' => e = .returned (.bool (!(coefB x))) ∧ Below w.heap.size w w' := by
  have hR : Hid (inB x (-1000) 1000 = coefB x) := rfl
  generalize coefB x = q at *
  go_enter Try.func51, Try.ntmps51
  go_wp2_with (go_at_call 32; refine (within_at hR.out _).mono ?_; rintro e w1 ⟨rfl, rfl⟩)
  go_ret
  exact ⟨rfl, bb _⟩

set_option maxRecDepth 100000 in
set_option maxHeartbeats 1000000 in
theorem isInequality_any (vars b : Int) (cs : List Int) (A : Option Addr) (cap : Nat) (w : World) (hx : IntsAt w A cs) (hl : cs.length ≤ 1000000) :
    Calls Try.prog 24 #[.int .i64 vars, .agg #[.slice A cs.length cap, .int .i64 b]] w fun e w' => e = .returned (.bool (goodQ vars b cs)) ∧ Below w.heap.size w w' := by
  have hB := bal (bb w) (.cells #[.slice A cs.length cap, .int .i64 b] 26)
  have eg : Enter1 51 := enters_of Try.func51 (by kernel_rfl) rfl
  have hcall := Lib.hid (containsI_any (cb := #[]) (R := fun _ => True) eg cs A cap _ (hx.grow hB) hl (by simp) (fun x W _ _ => isInequality1_any x W))
  have hall : cs.all coefB = !(cs.any fun c => !(coefB c)) := by rw [List.all_eq_not_any_not]
  have hR : Hid (goodQ vars b cs = (inB vars 0 12 && decide ((cs.length : Int) = vars) && inB b (-10000) 10000 && !(cs.any fun c => !(coefB c)))) := by unfold Hid goodQ; rw [hall]
  generalize (cs.any fun c => !(coefB c)) = q4 at *
  clear hx hall eg
  cases h1 : inB vars 0 12
  · rw [h1] at hR
    go_enter Try.func24, Try.ntmps24
    go_wp2_with (go_at_call 49; refine (varsOk_at h1 _).mono ?_; rintro e w1 ⟨rfl, rfl⟩)
    go_ret
    exact ⟨ret_bool (by rw [hR.out]; rfl), hB⟩
  by_cases h2 : (cs.length : Int) = vars
  case neg =>
    rw [h1, decide_eq_false h2] at hR
    go_enter Try.func24, Try.ntmps24
    go_wp2_with (go_at_call 49; refine (varsOk_at h1 _).mono ?_; rintro e w1 ⟨rfl, rfl⟩)
    go_ret
    exact ⟨ret_bool (by rw [hR.out]; rfl), hB⟩
  rw [h1, decide_eq_true h2] at hR
  cases h3 : inB b (-10000) 10000
  · rw [h3] at hR
    go_enter Try.func24, Try.ntmps24
    go_wp2_with (first | (go_at_call 49; refine (varsOk_at h1 _).mono ?_; rintro e w1 ⟨rfl, rfl⟩) | (go_at_call 32; refine (within_at h3 _).mono ?_; rintro e w1 ⟨rfl, rfl⟩))
    go_ret
    exact ⟨ret_bool (by rw [hR.out]; rfl), hB⟩
  rw [h3] at hR
  go_enter Try.func24, Try.ntmps24
  go_wp2_with (first | (go_at_call 49; refine (varsOk_at h1 _).mono ?_; rintro e w1 ⟨rfl, rfl⟩) | (go_at_call 32; refine (within_at h3 _).mono ?_; rintro e w1 ⟨rfl, rfl⟩))
  refine hcall.out.mono ?_
  rintro e w1 ⟨rfl, hb1⟩
  have hB2 := btr hB hb1
  clear hcall hb1 hB
  go_wp2_with fail
  go_ret
  exact ⟨ret_bool (by rw [hR.out]; cases q4 <;> rfl), hB2⟩

set_option maxRecDepth 100000 in
set_option maxHeartbeats 1000000 in
theorem planeHolds_any (cs : List Int) (b : Int) (m : Nat) (hm : m < 2 ^ 62) (A : Option Addr) (cap : Nat) (w : World) (hx : IntsAt w A cs) (hl : cs.length ≤ 12) (hc : ∀ c ∈ cs, -1000 ≤ c ∧ c ≤ 1000) :
    Calls Try.prog 39 #[.agg #[.slice A cs.length cap, .int .i64 b], .int .i64 m] w fun e w' => e = .returned (.bool (holdsQ cs b m)) ∧ Below w.heap.size w w' := by
  have S0 := (Sp.start w).alloc_box #[.slice A cs.length cap, .int .i64 b] 26
  have c0 := S0.cell (i := 0) rfl (o := 0) rfl
  replace S0 := Lib.hid S0
  have hR : Hid (holdsQ cs b m = decide (b ≤ sumK cs m cs.length)) := rfl
  have hbd := Lib.hid (fun k => sumK_bound (by decide : (0 : Int) ≤ 1000) hc m k)
  have hcH := Lib.hid hc
  have hxH := Lib.hid hx
  clear hx hc
  go_enter Try.func39, Try.ntmps39
  go_wp2_with fail
  go_loopw [5, 11] (fun s i wr => ∃ k : Nat, k ≤ cs.length ∧ i = .int .i64 k ∧ s = .int .i64 (sumK cs m k) ∧ Hid (Sp w wr [Box w.heap.size 26 #[.slice A cs.length cap, .int .i64 b]])) (fun _ i _ => cs.length - (intOf i).toNat)
  case atStart => exact ⟨0, Nat.zero_le _, rfl, rfl, S0⟩
  case round =>
    obtain ⟨k, hk, rfl, rfl, HS⟩ := hrel
    clear S0 c0
    by_cases hlt : k < cs.length
    · obtain ⟨ab, off, rfl, m0⟩ := (hxH.out.grow HS.out.below).at_ k hlt
      have hand := bit_at m hm k
      rw [Nat.min_eq_left (by omega)] at hand
      have hw2 : IntKind.i64.wrap (k : Int) = (k : Int) := IntWalk.i64_in _ (by omega)
      have hg : cs.getD k 0 = cs[k] := by simp [List.getD_eq_getElem?_getD, hlt]
      have hcb := hcH.out _ (List.getElem_mem hlt)
      have hb1 := hbd.out k
      cases ht : m.testBit k
      · have hsn : sumK cs m (k + 1) = sumK cs m k := by simp [sumK, ht]
        rw [ht] at hand
        simp only [if_true, if_false, Bool.false_eq_true] at hand
        generalize sumK cs m k = s at *
        generalize cs[k] = x at *
        replace hsn := Lib.hid hsn
        clear hb1 ht hg hcb
        go_wp2_with fail
        go_roundw
        case rel => exact ⟨k + 1, by omega, by go_num, by rw [hsn.out], HS⟩
        case measure => simp [intOf]; omega
      · have hsn : sumK cs m (k + 1) = sumK cs m k + cs[k] := by simp [sumK, ht, hlt]
        rw [ht] at hand
        simp only [if_true] at hand
        generalize sumK cs m k = s at *
        generalize cs[k] = x at *
        have hwa : IntKind.i64.wrap (s + x) = s + x := IntWalk.i64_in _ (by omega)
        replace hsn := Lib.hid hsn
        clear hb1 ht hg hcb
        go_wp2_with fail
        go_roundw
        case rel => exact ⟨k + 1, by omega, by go_num, by rw [hsn.out], HS⟩
        case measure => simp [intOf]; omega
    · have hge : ¬ (k : Int) < (cs.length : Int) := by omega
      have hkk : k = cs.length := by omega
      have c1 := HS.out.cell (i := 0) rfl (o := 1) rfl
      rw [← hkk] at hR
      generalize sumK cs m k = s at *
      have hB := HS.out.below
      clear HS
      go_wp2_with fail
      exact bodyPost_ret (v := .bool (decide (b ≤ s))) (by simp [results, Try.results39, go_sem]) rfl ⟨ret_bool hR.out.symm, hB⟩
end Go.Proofs.Ytcdgpekefiplnaa
