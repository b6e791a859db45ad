/- Contracts: polynomials in the program. -/
import Derived.Test.YtebhkfhdjdgokaaPolC
import Derived.Test.YtebhkfhdjdgokaaSepB
import Derived.Test.YtebhkfhdjdgokaaHTail
namespace Go.Proofs.Ytebhkfhdjdgokaa
open Go.RowKit

def o1 (x : Int) : Int := IntKind.u64.wrap (bits .and .u64 (x / 2) 6148914691236517205 + bits .and .u64 x 6148914691236517205)
def o2 (x : Int) : Int := IntKind.u64.wrap (bits .and .u64 (x / 4) 3689348814741910323 + bits .and .u64 x 3689348814741910323)
def o3 (x : Int) : Int := bits .and .u64 (IntKind.u64.wrap (x / 16 + x)) 1085102592571150095
def o4 (x : Int) : Int := IntKind.u64.wrap (x + x / 256)
def o5 (x : Int) : Int := IntKind.u64.wrap (x + x / 65536)
def o6 (x : Int) : Int := IntKind.u64.wrap (x + x / 4294967296)
theorem onesE : ∀ n : Fin 64, bits .and .i64 (wrap64 (o6 (o5 (o4 (o3 (o2 (o1 (n.val : Int)))))))) 127 = popI (n.val : Int) := by decide +kernel

set_option maxHeartbeats 1000000 in
theorem ones64_any (x : Nat) (w : World) (hx : x < 64) : Calls Try.prog 94 #[.int .u64 x] w fun e w' => e = .returned (.int .i64 (popI x)) ∧ w = w' := by
  have hR := Lib.hid (rfl : popI x = (Lib.onesCount (x : Int).toNat : Int))
  go_enter Try.func94, Try.ntmps94
  go_wp2_with fail
  go_ret
  refine ⟨ret_int ?_, rfl⟩
  exact onesE ⟨x, hx⟩

set_option maxHeartbeats 400000 in
theorem bitsOk_any (vars m : Int) (w : World) (h0 : 0 ≤ vars) (h1 : vars ≤ 6) : Calls Try.prog 87 #[.int .i64 vars, .int .i64 m] w fun e w' => e = .returned (.bool (inB m 0 ((monoN vars : Int) - 1))) ∧ w = w' := by
  obtain ⟨N, hN0, hN, hN1, hN64⟩ := mono_pow h0 h1
  have hNw : IntKind.i64.wrap N = N := IntWalk.i64_in _ (by omega)
  rw [hN0]
  clear hN0
  go_enter Try.func87, Try.ntmps87
  go_wp2_with fail
  refine (within_any _ _ _ _).mono ?_
  rintro e w1 ⟨rfl, rfl⟩
  go_wp2_with fail
  go_ret
  exact ⟨rfl, rfl⟩

set_option maxHeartbeats 400000 in
theorem ringOf_any (p vars : Int) (w : World) : Calls Try.prog 70 #[.int .i64 p, .int .i64 vars] w fun e w' => e = .returned (.tuple #[.agg #[.int .i64 p, .int .i64 vars], .bool (primeB p vars)]) ∧ Below w.heap.size w w' := by
  by_cases h : p = 2 ∨ p = 3 ∨ p = 5
  · have hR : Hid (primeB p vars = inB vars 0 6) := by unfold Hid primeB; rcases h with rfl | rfl | rfl <;> rfl
    rcases h with rfl | rfl | rfl
    all_goals
      go_enter Try.func70, Try.ntmps70
      go_wp2_with fail
      refine (within_any _ _ _ _).mono ?_
      rintro e w1 ⟨rfl, rfl⟩
      rw [← hR.out]
      go_wp2_with fail
      exact bodyPost_ret (v := .tuple #[.agg #[.int .i64 _, .int .i64 vars], .bool (primeB _ vars)]) (by simp [results, Try.results70, go_sem]) rfl ⟨rfl, (by repeat (first | exact bb _ | assumption | refine bal ?_ _ | refine bdr ?_ | refine bdn ?_ _ | refine bst ?_ (by simp <;> omega) _ | refine btr ?_ (by assumption)))⟩
  · have h2 : (p == 2) = false := by rw [beq_eq_false_iff_ne]; omega
    have h3 : (p == 3) = false := by rw [beq_eq_false_iff_ne]; omega
    have h5 : (p == 5) = false := by rw [beq_eq_false_iff_ne]; omega
    have hR : Hid (primeB p vars = false) := by unfold Hid primeB; rw [h2, h3, h5]; rfl
    go_enter Try.func70, Try.ntmps70
    go_wp2_with fail
    exact bodyPost_ret (v := .tuple #[.agg #[.int .i64 p, .int .i64 vars], .bool false]) (by simp [results, Try.results70, go_sem]) rfl ⟨by rw [hR.out], (by repeat (first | exact bb _ | assumption | refine bal ?_ _ | refine bdr ?_ | refine bdn ?_ _ | refine bst ?_ (by simp <;> omega) _ | refine btr ?_ (by assumption)))⟩

set_option maxHeartbeats 400000 in
theorem ones_any (x : Nat) (w : World) (hx : x < 64) : Calls Try.prog 89 #[.int .u64 x] w fun e w' => e = .returned (.int .i64 (popI x)) ∧ w = w' := by
  go_enter Try.func89, Try.ntmps89
  go_wp2_with fail
  refine (ones64_any x _ hx).mono ?_
  rintro e w1 ⟨rfl, rfl⟩
  go_wp2_with fail
  go_ret
  exact ⟨rfl, rfl⟩
set_option maxHeartbeats 400000 in
theorem degreeOf_any (x : Nat) (w : World) (hx : x < 64) : Calls Try.prog 73 #[.int .i64 x] w fun e w' => e = .returned (.int .i64 (popI x)) ∧ w = w' := by
  go_enter Try.func73, Try.ntmps73
  go_wp2_with fail
  refine (ones_any x _ hx).mono ?_
  rintro e w1 ⟨rfl, rfl⟩
  go_wp2_with fail
  go_ret
  exact ⟨rfl, rfl⟩

/-- The coefficients of a polynomial in memory. -/
def ieEnc (n : Int) : List Value := [.int .i64 n]
theorem getD_range {d : List Int} {lo hi : Int} (h : ∀ x ∈ d, lo ≤ x ∧ x ≤ hi) (h0 : lo ≤ 0) (h1 : 0 ≤ hi) (j : Nat) : lo ≤ d.getD j 0 ∧ d.getD j 0 ≤ hi := by
  rw [List.getD_eq_getElem?_getD]
  cases hj : d[j]? with
  | none => exact ⟨h0, h1⟩
  | some x => exact h x (List.mem_of_getElem? hj)
theorem denseL_range {p vars : Int} (hp : 0 < p) : ∀ (n : Nat) (xs : List (Int × Int)), xs.length = n → ∀ x ∈ denseL p vars xs, 0 ≤ x ∧ x ≤ p - 1
  | 0, xs, hn => by
    obtain rfl := List.length_eq_zero_iff.1 hn
    intro x hx
    have := List.eq_of_mem_replicate (show x ∈ List.replicate (monoN vars) 0 from hx)
    omega
  | n + 1, xs, hn => by
    rcases List.eq_nil_or_concat xs with rfl | ⟨ys, y, rfl⟩
    · simp at hn
    rw [List.concat_eq_append] at hn ⊢
    rw [denseL_snoc]
    intro x hx
    unfold stepD at hx
    rcases List.mem_or_eq_of_mem_set hx with h | rfl
    · exact denseL_range hp n ys (by simpa using hn) x h
    · have h1 := Int.emod_nonneg ((denseL p vars ys).getD y.1.toNat 0 + y.2) (show p ≠ 0 by omega)
      have h2 := Int.emod_lt_of_pos ((denseL p vars ys).getD y.1.toNat 0 + y.2) hp
      omega

set_option maxHeartbeats 1000000 in
theorem degree_any (v : Value) (d : List Int) (F : List Nat) (w : World) (hx : Ty.int.row false w v d F) (hd : d.length ≤ 64) :
    Calls Try.prog 34 #[v] w fun e w' => e = .returned (.int .i64 (degD d d.length)) ∧ Below w.heap.size w w' := by
  obtain ⟨a, c, rfl, hx1, hx2, _, hx3⟩ := row_int hx
  go_enter Try.func34, Try.ntmps34
  go_wp2_with fail
  go_loopw [3, 8] (fun z i wr => ∃ k : Nat, k ≤ d.length ∧ i = .int .i64 k ∧ z = .int .i64 (degD d k) ∧ Below w.heap.size w wr) (fun _ i _ => d.length - (intOf i).toNat)
  case atStart => exact ⟨0, Nat.zero_le _, rfl, rfl, bb _⟩
  case round =>
    obtain ⟨k, hk, rfl, rfl, hB⟩ := hrel
    by_cases hlt : k < d.length
    · rcases hx3 with ⟨rfl, rfl⟩ | ⟨hxn, b, off, rfl, rfl, hxc⟩
      · exact absurd hlt (by simp)
      have k0 := ((hxc k hlt).keep (hB.block b (hxc k hlt).lt)).1
      have hg : d.getD k 0 = d[k] := by rw [List.getD_eq_getElem?_getD, List.getElem?_eq_getElem hlt]; rfl
      clear hxc
      by_cases hz : d[k] = 0
      · have HS : Hid (degD d (k + 1) = degD d k) := by unfold Hid; rw [degD, hg, if_pos hz]
        rw [hz] at k0
        clear hz hg
        go_wp2_with fail
        go_roundw
        case rel => exact ⟨k + 1, by omega, by go_num, by rw [HS.out], hB⟩
        case measure => simp [intOf]; omega
      · have HS : Hid (degD d (k + 1) = max (degD d k) (popI k)) := by unfold Hid; rw [degD, hg, if_neg hz]
        have hz' : (d[k] != 0) = true := by simpa using hz
        have hM : Hid (max (degD d k) (popI k) = if degD d k < popI k then popI k else degD d k) := by unfold Hid; split <;> omega
        generalize d[k] = y at k0 hz'
        clear hz hg
        generalize degD d k = D at HS hM ⊢
        go_wp2_with fail
        refine (degreeOf_any k _ (by omega)).mono ?_
        rintro e w1 ⟨rfl, rfl⟩
        generalize popI k = P at HS hM ⊢
        go_wp2_with fail
        go_roundw
        case rel => exact ⟨k + 1, by omega, by go_num, by rw [HS.out, hM.out], hB⟩
        case measure => simp [intOf]; omega
    · obtain rfl : k = d.length := by omega
      go_wp2_with fail
      go_ret
      exact ⟨rfl, hB⟩

theorem within_at {x a b : Int} {q : Bool} (h : inB x a b = q) (w : World) : Calls Try.prog 53 #[.int .i64 x, .int .i64 a, .int .i64 b] w fun e w' => e = .returned (.bool q) ∧ Below w.heap.size w w' :=
  h ▸ (within_any x a b w).mono fun _ _ ⟨h1, h2⟩ => ⟨h1, h2 ▸ bb _⟩
theorem bitsOk_at {vars m N : Int} {q : Bool} (h0 : 0 ≤ vars) (h1 : vars ≤ 6) (hN : (monoN vars : Int) = N) (h : inB m 0 (N - 1) = q) (w : World) : Calls Try.prog 87 #[.int .i64 vars, .int .i64 m] w fun e w' => e = .returned (.bool q) ∧ Below w.heap.size w w' := by
  subst hN
  exact h ▸ (bitsOk_any vars m w h0 h1).mono fun _ _ ⟨h1, h2⟩ => ⟨h1, h2 ▸ bb _⟩

set_option maxRecDepth 100000 in
set_option maxHeartbeats 2000000 in
theorem ringIs_any (p vars : Int) (v : Value) (xs : List (Int × Int)) (F : List Nat) (w : World) (hx : tmTy.row false w v xs F) (hp0 : 2 ≤ p) (hp1 : p ≤ 5) (hv0 : 0 ≤ vars) (hv1 : vars ≤ 6) :
    Calls Try.prog 71 #[.agg #[.int .i64 p, .int .i64 vars], v] w fun e w' => e = .returned (.bool (termsB p vars xs)) ∧ Below w.heap.size w w' := by
  obtain ⟨a, c, rfl, hx1, hx2, _, hx3⟩ := row_tm hx
  obtain ⟨N, hN0, _, hN1, hN64⟩ := mono_pow hv0 hv1
  have hpw1 : IntKind.i64.wrap (p - 1) = p - 1 := IntWalk.i64_in _ (by omega)
  replace hN0 := Lib.hid hN0
  obtain ⟨W, hW⟩ : ∃ W, w.alloc (.cells #[.int .i64 p, .int .i64 vars] 63) = W := ⟨_, rfl⟩
  have hWs : W.heap.size = w.heap.size + 1 := by rw [← hW]; simp
  have p0 : W.cell? ⟨w.heap.size, 0, none⟩ = some (.int .i64 p) := by rw [← hW]; simp
  have p1 : W.cell? ⟨w.heap.size, 1, none⟩ = some (.int .i64 vars) := by rw [← hW]; simp
  have hBW : Below w.heap.size w W := by rw [← hW]; exact bal (bb _) _
  replace p0 := Lib.hid p0
  replace p1 := Lib.hid p1
  replace hWs := Lib.hid hWs
  replace hW := Lib.hid hW
  go_enter Try.func71, Try.ntmps71
  go_wp2_with fail
  rw [hW.out]
  go_loopw [9] (fun i wr => ∃ k : Nat, k ≤ xs.length ∧ i = .int .i64 k ∧ Hid (tmOkTo p vars xs k = true) ∧ Below W.heap.size W wr) (fun i _ => xs.length - (intOf i).toNat)
  case atStart => exact ⟨0, Nat.zero_le _, rfl, by simp [Hid, tmOkTo], bb _⟩
  case round =>
    obtain ⟨k, hk, rfl, HR, hB⟩ := hrel
    have hB0 : Below w.heap.size w wr := btr hBW hB
    by_cases hlt : k < xs.length
    · rcases hx3 with ⟨rfl, rfl⟩ | ⟨hxn, b, off, rfl, rfl, hxc⟩
      · exact absurd hlt (by simp)
      have x0 := ((hxc k hlt).1.keep (hB0.block b (hxc k hlt).1.lt)).1
      have x1 := ((hxc k hlt).2.keep (hB0.block b (hxc k hlt).2.lt)).1
      have hlw : w.heap.size < W.heap.size := by rw [hWs.out]; omega
      have r0 := cell_regrown (cell_alloc ((hB.cell (p := ⟨w.heap.size, 0, none⟩) hlw).trans p0.out) (.cells #[.int .i64 xs[k].1, .int .i64 xs[k].2] 59))
      have r1 := cell_regrown (cell_alloc ((hB.cell (p := ⟨w.heap.size, 1, none⟩) hlw).trans p1.out) (.cells #[.int .i64 xs[k].1, .int .i64 xs[k].2] 59))
      have t0 := cell_regrown (w := wr.alloc (.cells #[.int .i64 xs[k].1, .int .i64 xs[k].2] 59)) (a := ⟨wr.heap.size, 0, none⟩) (v := .int .i64 xs[k].1) (by simp)
      have t1 := cell_regrown (w := wr.alloc (.cells #[.int .i64 xs[k].1, .int .i64 xs[k].2] 59)) (a := ⟨wr.heap.size, 1, none⟩) (v := .int .i64 xs[k].2) (by simp)
      have hat := Lib.hid (tmOk_at p vars xs k hlt)
      rw [hN0.out] at hat
      have hno := Lib.hid (@terms_no p vars xs k hlt)
      have hst := Lib.hid fun h => terms_step HR.out h
      have hjx := Lib.hid fun (hj : k - 1 < xs.length) => cell_regrown (cell_alloc ((hxc (k - 1) hj).1.keep (hB0.block b (hxc (k - 1) hj).1.lt)).1 (.cells #[.int .i64 xs[k].1, .int .i64 xs[k].2] 59))
      clear HR hxc
      cases hq1 : inB xs[k].1 0 (N - 1)
      · have HN : Hid (termsB p vars xs = false) := hno.out (by rw [hat.out, hq1]; rfl)
        clear hat hno hst hjx
        go_wp2_with fail
        refine wp_region_quiet_below (by kernel_rfl) (by kernel_rfl) ?_
        repeat (any_goals (first | go_big_quiet_step (first | (go_at_call 87; exact Calls.regrown_of (bitsOk_at hv0 hv1 hN0.out hq1 _)))))
        refine wpQuiet_nil ?_
        rintro w1 ⟨p', rfl⟩
        go_wp2_with fail
        go_ret
        exact ⟨ret_bool HN.out.symm, btr (bal hB0 _) (below_regrown _ _ _)⟩
      cases hq2 : inB xs[k].2 1 (p - 1)
      · have HN : Hid (termsB p vars xs = false) := hno.out (by rw [hat.out, hq1, hq2]; rfl)
        clear hat hno hst hjx
        go_wp2_with fail
        refine wp_region_quiet_below (by kernel_rfl) (by kernel_rfl) ?_
        repeat (any_goals (first | go_big_quiet_step (first | (go_at_call 87; exact Calls.regrown_of (bitsOk_at hv0 hv1 hN0.out hq1 _)) | (go_at_call 53; exact Calls.regrown_of (within_at hq2 _)))))
        refine wpQuiet_nil ?_
        rintro w1 ⟨p', rfl⟩
        go_wp2_with fail
        go_ret
        exact ⟨ret_bool HN.out.symm, btr (bal hB0 _) (below_regrown _ _ _)⟩
      rcases Nat.eq_zero_or_pos k with rfl | hpos
      · have HN : Hid (tmOkTo p vars xs (0 + 1) = true) := hst.out (by rw [hat.out, hq1, hq2]; rfl)
        simp only [Nat.zero_mul, Nat.add_zero, Nat.zero_add] at x0 x1
        clear hat hno hst hjx
        go_wp2_with fail
        refine wp_region_quiet_below (by kernel_rfl) (by kernel_rfl) ?_
        repeat (any_goals (first | go_big_quiet_step (first | (go_at_call 87; exact Calls.regrown_of (bitsOk_at hv0 hv1 hN0.out hq1 _)) | (go_at_call 53; exact Calls.regrown_of (within_at hq2 _)))))
        refine wpQuiet_nil ?_
        rintro w1 ⟨p', rfl⟩
        go_wp2_with fail
        go_roundw
        case rel => exact ⟨0 + 1, by omega, by go_num, HN, btr (bal hB _) (below_regrown _ _ _)⟩
        case measure => simp [intOf]; omega
      have hj : k - 1 < xs.length := by omega
      have x2 := hjx.out hj
      have hg : (0 : Int) < (k : Int) := by omega
      have hk0 : (k == 0) = false := by rw [beq_eq_false_iff_ne]; omega
      by_cases hc : xs[k - 1].1 < xs[k].1
      · have HN : Hid (tmOkTo p vars xs (k + 1) = true) := hst.out (by rw [hat.out, hq1, hq2, hk0, decide_eq_true hc]; rfl)
        clear hat hno hst hk0 hjx
        go_wp2_with fail
        refine wp_region_quiet_below (by kernel_rfl) (by kernel_rfl) ?_
        repeat (any_goals (first | go_big_quiet_step (first | (go_at_call 87; exact Calls.regrown_of (bitsOk_at hv0 hv1 hN0.out hq1 _)) | (go_at_call 53; exact Calls.regrown_of (within_at hq2 _)))))
        refine wpQuiet_nil ?_
        rintro w1 ⟨p', rfl⟩
        go_wp2_with fail
        go_roundw
        case rel => exact ⟨k + 1, by omega, by go_num, HN, btr (bal hB _) (below_regrown _ _ _)⟩
        case measure => simp [intOf]; omega
      · have HN : Hid (termsB p vars xs = false) := hno.out (by rw [hat.out, hq1, hq2, hk0, decide_eq_false hc]; rfl)
        clear hat hno hst hk0 hjx
        go_wp2_with fail
        refine wp_region_quiet_below (by kernel_rfl) (by kernel_rfl) ?_
        repeat (any_goals (first | go_big_quiet_step (first | (go_at_call 87; exact Calls.regrown_of (bitsOk_at hv0 hv1 hN0.out hq1 _)) | (go_at_call 53; exact Calls.regrown_of (within_at hq2 _)))))
        refine wpQuiet_nil ?_
        rintro w1 ⟨p', rfl⟩
        go_wp2_with fail
        go_ret
        exact ⟨ret_bool HN.out.symm, btr (bal hB0 _) (below_regrown _ _ _)⟩
    · obtain rfl : k = xs.length := by omega
      have HN : Hid (termsB p vars xs = true) := HR.out
      go_wp2_with fail
      go_ret
      exact ⟨ret_bool HN.out.symm, hB0⟩
end Go.Proofs.Ytebhkfhdjdgokaa
