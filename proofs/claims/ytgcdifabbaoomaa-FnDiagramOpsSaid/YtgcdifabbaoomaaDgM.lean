/- Contracts: valid diagrams, in the reference. -/
import Derived.Test.YtgcdifabbaoomaaDgG
namespace Go.Proofs.Ytgcdifabbaoomaa
open Go.RowKit

theorem l26Vars_any (vars : Int) (w : World) : Calls Try.prog 74 #[.int .i64 vars] w fun e w' => e = .returned (.bool (inB vars 0 6)) ∧ w = w' := by
  go_enter Try.func74, Try.ntmps74
  go_wp2_with (go_at_call 48; refine (l1In_any _ _ _ _).mono ?_; rintro e w1 ⟨rfl, rfl⟩)
  go_ret
  exact ⟨rfl, rfl⟩
theorem under_node {ns : List Nd} {m : Nat} (hm : m < ns.length) {lo : Int} (h : lo = (m : Int) + 2) (v : Int) : under ns v lo = decide (v < ns[m].v) := by
  unfold under
  rw [decide_eq_false (by omega), List.getD_eq_getElem?_getD, show (lo - 2).toNat = m by omega, List.getElem?_eq_getElem hm]
  rfl
theorem under_low {ns : List Nd} {lo : Int} (h : lo < 2) (v : Int) : under ns v lo = true := by
  unfold under
  rw [decide_eq_true h]; rfl
theorem NdAt.var {w : World} {b off : Nat} {ns : List Nd} (h : NdAt w (some ⟨b, off, none⟩) ns) {m : Nat} (hm : m < ns.length) : w.cell? ⟨b, off + m * 3, none⟩ = some (.int .i64 ns[m].v) := by
  obtain ⟨b', off', e, h1, _⟩ := h.at_ m hm
  cases e
  exact h1
theorem nds_no' {vars : Int} {ns : List Nd} {k : Nat} (hk : k < ns.length) (h : ndB vars ns k = false) : ndsB vars ns ns.length = false := by
  cases hh : ndsB vars ns ns.length
  · rfl
  · have := ndsB_ok.1 hh k hk
    rw [h] at this; cases this
theorem goodD_def' (vars r : Int) (ns : List Nd) : goodD vars r ns = (inB vars 0 6 && decide (ns.length ≤ 63) && inB r 0 (ns.length + 1) && ndsB vars ns ns.length) := rfl
theorem ndB_eq {vars : Int} {ns : List Nd} {i : Nat} (hi : i < ns.length) {v lo hi' : Int} (h : ns[i] = ⟨v, lo, hi'⟩) : ndB vars ns i = (inB v 1 vars && inB lo 0 (i + 1) && inB hi' 0 (i + 1) && under ns v lo && under ns v hi') := by
  unfold ndB
  rw [List.getD_eq_getElem?_getD, List.getElem?_eq_getElem hi, h]
  rfl
theorem NdAt.ok_at {w : World} {A : Option Addr} {ns : List Nd} (h : NdAt w A ns) {m : Nat} (hm : m < ns.length) : ndOk ns[m] := h.ok _ (List.getElem_mem hm)

set_option maxRecDepth 100000 in
set_option maxHeartbeats 16000000 in
theorem l26Good_any (vars r : Int) (A : Option Addr) (c : Nat) (ns : List Nd) (w : World) (hx : NdAt w A ns) (hl : ns.length ≤ 1000000) :
    Calls Try.prog 47 #[.int .i64 vars, dgV r (.slice A ns.length c)] w fun e w' => e = .returned (.bool (goodD vars r ns)) ∧ Below w.heap.size w w' := by
  have hR := Lib.hid (goodD_def' vars r ns)
  have S0 := (Sp.start w).alloc_box #[.int .i64 r, .slice A ns.length c] 26
  have hB := S0.below
  cases h1 : inB vars 0 6
  · have hF : Hid (goodD vars r ns = false) := by unfold Hid; rw [hR.out, h1]; rfl
    clear S0
    go_enter Try.func47, Try.ntmps47
    go_wp2_with (first | (go_at_call 74; refine (l26Vars_any _ _).mono ?_; rw [h1]; rintro e w1 ⟨rfl, rfl⟩) | (go_at_call 48; refine (l1In_any _ _ _ _).mono ?_; (first | rw [h1] | rfl); rintro e w1 ⟨rfl, rfl⟩))
    go_ret
    exact ⟨ret_bool hF.out.symm, hB⟩
  by_cases h2 : (63 : Int) < ns.length
  · have hF : Hid (goodD vars r ns = false) := by unfold Hid; rw [hR.out, decide_eq_false (by omega : ¬ ns.length ≤ 63)]; simp
    clear S0
    go_enter Try.func47, Try.ntmps47
    go_wp2_with (first | (go_at_call 74; refine (l26Vars_any _ _).mono ?_; rw [h1]; rintro e w1 ⟨rfl, rfl⟩) | (go_at_call 48; refine (l1In_any _ _ _ _).mono ?_; (first | rw [h1] | rfl); rintro e w1 ⟨rfl, rfl⟩))
    go_ret
    exact ⟨ret_bool hF.out.symm, hB⟩
  cases h3 : inB r 0 ((ns.length : Int) + 1)
  · have hF : Hid (goodD vars r ns = false) := by unfold Hid; rw [hR.out, h3]; simp
    clear S0
    go_enter Try.func47, Try.ntmps47
    go_wp2_with (first | (go_at_call 74; refine (l26Vars_any _ _).mono ?_; rw [h1]; rintro e w1 ⟨rfl, rfl⟩) | (go_at_call 48; refine (l1In_any _ _ _ _).mono ?_; (first | rw [h3] | rfl); rintro e w1 ⟨rfl, rfl⟩))
    go_ret
    exact ⟨ret_bool hF.out.symm, hB⟩
  have hR2 : Hid (goodD vars r ns = ndsB vars ns ns.length) := by
    unfold Hid; rw [hR.out, h1, h3, decide_eq_true (by omega : ns.length ≤ 63)]; simp
  replace S0 := Lib.hid S0
  have hN := Lib.hid hx
  clear hR hx hB
  go_enter Try.func47, Try.ntmps47
  go_wp2_with (first | (go_at_call 74; refine (l26Vars_any _ _).mono ?_; rw [h1]; rintro e w1 ⟨rfl, rfl⟩) | (go_at_call 48; refine (l1In_any _ _ _ _).mono ?_; (first | rw [h3] | rfl); rintro e w1 ⟨rfl, rfl⟩))
  go_loopw [5] (fun i wr => ∃ k : Nat, k ≤ ns.length ∧ i = .int .i64 k ∧ Hid (ndsB vars ns k = true) ∧ Hid (Sp w wr [Box w.heap.size 26 #[.int .i64 r, .slice A ns.length c]])) (fun i _ => ns.length - (intOf i).toNat)
  case atStart => exact ⟨0, Nat.zero_le _, rfl, rfl, S0⟩
  case round =>
    obtain ⟨k, hk, rfl, HD, HS⟩ := hrel
    clear S0
    by_cases hlt : k < ns.length
    · obtain ⟨b, off, rfl, m0, m1, m2⟩ := (hN.out.grow HS.out.below).at_ k hlt
      have hNw := Lib.hid (hN.out.grow HS.out.below)
      have hgl : b < wr.heap.size := World.block_lt_of_cell? _ _ m0
      obtain ⟨ov, olo, ohi⟩ := hN.out.ok_at hlt
      have hyes : Hid (ndB vars ns k = true → ndsB vars ns (k + 1) = true) := fun h => by rw [ndsB_succ, HD.out, h]; rfl
      have hno : Hid (ndB vars ns k = false → goodD vars r ns = false) := fun h => by rw [hR2.out]; exact nds_no' hlt h
      have heq := Lib.hid (ndB_eq (vars := vars) hlt (v := ns[k].v) (lo := ns[k].lo) (hi' := ns[k].hi) rfl)
      have c1 := HS.out.cell (i := 0) rfl (o := 1) rfl
      generalize ns[k].v = v at *
      generalize ns[k].lo = lo at *
      generalize ns[k].hi = hi at *
      have hB := bal (bb wr) (.cells #[.int .i64 v, .int .i64 lo, .int .i64 hi] 67)
      have HS2 := Lib.hid (HS.out.grow hB)
      clear HS HD
      have hkw : IntKind.i64.wrap ((k : Int) + 1) = (k : Int) + 1 := IntWalk.i64_in _ (by omega)
      cases q1 : inB v 1 vars
      · have hF := Lib.hid (hno.out (by rw [heq.out, q1]; simp))
        clear hno hyes heq hN hNw
        have hB2 := HS2.out.below
        go_wp2_with (go_at_call 48; refine (l1In_any _ _ _ _).mono ?_; (first | rw [q1] | rw [q2] | rw [q3]); rintro e w1 ⟨rfl, rfl⟩)
        go_ret
        exact ⟨ret_bool hF.out.symm, hB2⟩
      cases q2 : inB lo 0 ((k : Int) + 1)
      · have hF := Lib.hid (hno.out (by rw [heq.out, q2]; simp))
        clear hno hyes heq hN hNw
        have hB2 := HS2.out.below
        go_wp2_with (go_at_call 48; refine (l1In_any _ _ _ _).mono ?_; (first | rw [q1] | rw [q2] | rw [q3]); rintro e w1 ⟨rfl, rfl⟩)
        go_ret
        exact ⟨ret_bool hF.out.symm, hB2⟩
      cases q3 : inB hi 0 ((k : Int) + 1)
      · have hF := Lib.hid (hno.out (by rw [heq.out, q3]; simp))
        clear hno hyes heq hN hNw
        have hB2 := HS2.out.below
        go_wp2_with (go_at_call 48; refine (l1In_any _ _ _ _).mono ?_; (first | rw [q1] | rw [q2] | rw [q3]); rintro e w1 ⟨rfl, rfl⟩)
        go_ret
        exact ⟨ret_bool hF.out.symm, hB2⟩
      obtain ⟨lo0, lo1⟩ := inB_def.1 q2
      obtain ⟨hi0, hi1⟩ := inB_def.1 q3
      have a1 := cell_regrown (HS2.out.cell (i := 0) rfl (o := 1) rfl)
      have n0 : (wr.alloc (.cells #[.int .i64 v, .int .i64 lo, .int .i64 hi] 67)).cell? ⟨wr.heap.size, 0, none⟩ = some (.int .i64 v) := cell_of_row _ _ _ _ _ _ (heap_alloc_new wr _)
      have n1 : (wr.alloc (.cells #[.int .i64 v, .int .i64 lo, .int .i64 hi] 67)).cell? ⟨wr.heap.size, 1, none⟩ = some (.int .i64 lo) := cell_of_row _ _ _ _ _ _ (heap_alloc_new wr _)
      have n2 : (wr.alloc (.cells #[.int .i64 v, .int .i64 lo, .int .i64 hi] 67)).cell? ⟨wr.heap.size, 2, none⟩ = some (.int .i64 hi) := cell_of_row _ _ _ _ _ _ (heap_alloc_new wr _)
      replace n0 := cell_regrown n0
      replace n1 := cell_regrown n1
      replace n2 := cell_regrown n2
      have hNW := Lib.hid (hNw.out.grow hB)
      clear hNw hB
      by_cases g1 : (1 : Int) < lo
      · have d1 : decide ((1 : Int) < lo) = true := decide_eq_true g1
        obtain ⟨q, hq⟩ : ∃ q : Nat, lo = (q : Int) + 2 := ⟨(lo - 2).toNat, by omega⟩
        have hlq : q < ns.length := by omega
        have hsq : IntKind.i64.wrap (lo - 2) = (q : Int) := by rw [IntWalk.i64_in _ (by omega)]; omega
        have pq := cell_regrown (hNW.out.var hlq)
        have uq := Lib.hid (under_node hlq hq v)
        replace hq := Lib.hid hq
        generalize ns[q].v = x at *
        by_cases f1 : x ≤ v
        · have d1' : decide (x ≤ v) = true := decide_eq_true f1
          have hF := Lib.hid (hno.out (by rw [heq.out, uq.out, decide_eq_false (by omega : ¬ v < x)]; simp))
          clear hno hyes heq hN hNW uq
          go_wp2_with (go_at_call 48; refine (l1In_any _ _ _ _).mono ?_; (first | rw [q1] | rw [q2] | rw [q3]); rintro e w1 ⟨rfl, rfl⟩)
          refine wp_region_quiet_below (by kernel_rfl) (by kernel_rfl) ?_
          repeat (any_goals (go_big_quiet_step (fail)))
          refine wpQuiet_nil ?_
          rintro w1 ⟨p, rfl⟩
          have HS3 := Lib.hid (HS2.out.grow (below_regrown _ p.d p.os))
          clear HS2 a1 n0 n1 n2 c1 m0 m1 m2
          go_wp2_with fail
          go_ret
          exact ⟨ret_bool hF.out.symm, HS3.out.below⟩
        · have d1' : decide (x ≤ v) = false := decide_eq_false f1
          have uq' : Hid (under ns v lo = true) := by unfold Hid; rw [uq.out]; exact decide_eq_true (by omega)
          clear uq
          by_cases g2 : (1 : Int) < hi
          · have d2 : decide ((1 : Int) < hi) = true := decide_eq_true g2
            obtain ⟨m, hm⟩ : ∃ m : Nat, hi = (m : Int) + 2 := ⟨(hi - 2).toNat, by omega⟩
            have hlm : m < ns.length := by omega
            have hsm : IntKind.i64.wrap (hi - 2) = (m : Int) := by rw [IntWalk.i64_in _ (by omega)]; omega
            have pm := cell_regrown (hNW.out.var hlm)
            have um := Lib.hid (under_node hlm hm v)
            replace hm := Lib.hid hm
            generalize ns[m].v = y at *
            by_cases f2 : y ≤ v
            · have d2' : decide (y ≤ v) = true := decide_eq_true f2
              have hF := Lib.hid (hno.out (by rw [heq.out, um.out, decide_eq_false (by omega : ¬ v < y)]; simp))
              clear hno hyes heq hN hNW um uq'
              go_wp2_with (go_at_call 48; refine (l1In_any _ _ _ _).mono ?_; (first | rw [q1] | rw [q2] | rw [q3]); rintro e w1 ⟨rfl, rfl⟩)
              refine wp_region_quiet_below (by kernel_rfl) (by kernel_rfl) ?_
              repeat (any_goals (go_big_quiet_step (fail)))
              refine wpQuiet_nil ?_
              rintro w1 ⟨p, rfl⟩
              have HS3 := Lib.hid (HS2.out.grow (below_regrown _ p.d p.os))
              clear HS2 a1 n0 n1 n2 c1 m0 m1 m2
              go_wp2_with fail
              go_ret
              exact ⟨ret_bool hF.out.symm, HS3.out.below⟩
            · have d2' : decide (y ≤ v) = false := decide_eq_false f2
              have hD := Lib.hid (hyes.out (by rw [heq.out, uq'.out, um.out, decide_eq_true (by omega : v < y), q1, q2, q3]; rfl))
              clear hno hyes heq hNW um uq'
              go_wp2_with (go_at_call 48; refine (l1In_any _ _ _ _).mono ?_; (first | rw [q1] | rw [q2] | rw [q3]); rintro e w1 ⟨rfl, rfl⟩)
              refine wp_region_quiet_below (by kernel_rfl) (by kernel_rfl) ?_
              repeat (any_goals (go_big_quiet_step (fail)))
              refine wpQuiet_nil ?_
              rintro w1 ⟨p, rfl⟩
              have HS3 := Lib.hid (HS2.out.grow (below_regrown _ p.d p.os))
              clear HS2 a1 n0 n1 n2 c1 m0 m1 m2
              go_wp2_with fail
              go_roundw
              case rel => exact ⟨k + 1, by omega, by go_num, hD, HS3⟩
              case measure => simp [intOf]; omega
          · have d2 : decide ((1 : Int) < hi) = false := decide_eq_false g2
            have hD := Lib.hid (hyes.out (by rw [heq.out, uq'.out, under_low (by omega : hi < 2), q1, q2, q3]; rfl))
            clear hno hyes heq hNW uq'
            go_wp2_with (go_at_call 48; refine (l1In_any _ _ _ _).mono ?_; (first | rw [q1] | rw [q2] | rw [q3]); rintro e w1 ⟨rfl, rfl⟩)
            refine wp_region_quiet_below (by kernel_rfl) (by kernel_rfl) ?_
            repeat (any_goals (go_big_quiet_step (fail)))
            refine wpQuiet_nil ?_
            rintro w1 ⟨p, rfl⟩
            have HS3 := Lib.hid (HS2.out.grow (below_regrown _ p.d p.os))
            clear HS2 a1 n0 n1 n2 c1 m0 m1 m2
            go_wp2_with fail
            go_roundw
            case rel => exact ⟨k + 1, by omega, by go_num, hD, HS3⟩
            case measure => simp [intOf]; omega
      · have d1 : decide ((1 : Int) < lo) = false := decide_eq_false g1
        have uq' : Hid (under ns v lo = true) := under_low (by omega) v
        by_cases g2 : (1 : Int) < hi
        · have d2 : decide ((1 : Int) < hi) = true := decide_eq_true g2
          obtain ⟨m, hm⟩ : ∃ m : Nat, hi = (m : Int) + 2 := ⟨(hi - 2).toNat, by omega⟩
          have hlm : m < ns.length := by omega
          have hsm : IntKind.i64.wrap (hi - 2) = (m : Int) := by rw [IntWalk.i64_in _ (by omega)]; omega
          have pm := cell_regrown (hNW.out.var hlm)
          have um := Lib.hid (under_node hlm hm v)
          replace hm := Lib.hid hm
          generalize ns[m].v = y at *
          by_cases f2 : y ≤ v
          · have d2' : decide (y ≤ v) = true := decide_eq_true f2
            have hF := Lib.hid (hno.out (by rw [heq.out, um.out, decide_eq_false (by omega : ¬ v < y)]; simp))
            clear hno hyes heq hN hNW um uq'
            go_wp2_with (go_at_call 48; refine (l1In_any _ _ _ _).mono ?_; (first | rw [q1] | rw [q2] | rw [q3]); rintro e w1 ⟨rfl, rfl⟩)
            refine wp_region_quiet_below (by kernel_rfl) (by kernel_rfl) ?_
            repeat (any_goals (go_big_quiet_step (fail)))
            refine wpQuiet_nil ?_
            rintro w1 ⟨p, rfl⟩
            have HS3 := Lib.hid (HS2.out.grow (below_regrown _ p.d p.os))
            clear HS2 a1 n0 n1 n2 c1 m0 m1 m2
            go_wp2_with fail
            go_ret
            exact ⟨ret_bool hF.out.symm, HS3.out.below⟩
          · have d2' : decide (y ≤ v) = false := decide_eq_false f2
            have hD := Lib.hid (hyes.out (by rw [heq.out, uq'.out, um.out, decide_eq_true (by omega : v < y), q1, q2, q3]; rfl))
            clear hno hyes heq hNW um uq'
            go_wp2_with (go_at_call 48; refine (l1In_any _ _ _ _).mono ?_; (first | rw [q1] | rw [q2] | rw [q3]); rintro e w1 ⟨rfl, rfl⟩)
            refine wp_region_quiet_below (by kernel_rfl) (by kernel_rfl) ?_
            repeat (any_goals (go_big_quiet_step (fail)))
            refine wpQuiet_nil ?_
            rintro w1 ⟨p, rfl⟩
            have HS3 := Lib.hid (HS2.out.grow (below_regrown _ p.d p.os))
            clear HS2 a1 n0 n1 n2 c1 m0 m1 m2
            go_wp2_with fail
            go_roundw
            case rel => exact ⟨k + 1, by omega, by go_num, hD, HS3⟩
            case measure => simp [intOf]; omega
        · have d2 : decide ((1 : Int) < hi) = false := decide_eq_false g2
          have hD := Lib.hid (hyes.out (by rw [heq.out, uq'.out, under_low (by omega : hi < 2), q1, q2, q3]; rfl))
          clear hno hyes heq hNW uq'
          go_wp2_with (go_at_call 48; refine (l1In_any _ _ _ _).mono ?_; (first | rw [q1] | rw [q2] | rw [q3]); rintro e w1 ⟨rfl, rfl⟩)
          refine wp_region_quiet_below (by kernel_rfl) (by kernel_rfl) ?_
          repeat (any_goals (go_big_quiet_step (fail)))
          refine wpQuiet_nil ?_
          rintro w1 ⟨p, rfl⟩
          have HS3 := Lib.hid (HS2.out.grow (below_regrown _ p.d p.os))
          clear HS2 a1 n0 n1 n2 c1 m0 m1 m2
          go_wp2_with fail
          go_roundw
          case rel => exact ⟨k + 1, by omega, by go_num, hD, HS3⟩
          case measure => simp [intOf]; omega
    · obtain rfl : k = ns.length := by omega
      have c1 := HS.out.cell (i := 0) rfl (o := 1) rfl
      go_wp2_with fail
      go_ret
      exact ⟨ret_bool (by rw [hR2.out, HD.out]), HS.out.below⟩
end Go.Proofs.Ytgcdifabbaoomaa
