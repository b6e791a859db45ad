/- Contracts: which graphs are valid. -/
import Derived.Test.YtebhkfhdjdgokaaChF
import Derived.Test.YtebhkfhdjdgokaaPolC
namespace Go.Proofs.Ytebhkfhdjdgokaa
open Go.RowKit

/-- The block of a charged graph. -/
abbrev ChBox (b : Nat) (V : Int) (v u : Value) : Asn := Box b 35 #[.int .i64 V, v, u]

set_option maxRecDepth 100000 in
set_option maxHeartbeats 2000000 in
theorem l27Good_any (V : Int) (v u : Value) (es : List (Int × Int)) (cs : List Int) (F G : List Nat) (w : World) (hx : tmTy.row false w v es F) (hy : Ty.int.row false w u cs G) :
    Calls Try.prog 74 #[.agg #[.int .i64 V, v, u]] w fun e w' => e = .returned (.bool (chargedB V es cs)) ∧ Below w.heap.size w w' := by
  obtain ⟨a, c, rfl, hx1, hx2, _, hx3⟩ := row_tm hx
  obtain ⟨ua, uc, rfl, hy1, hy2, _, hy3⟩ := row_int hy
  have S0 := (Sp.start w).alloc_box #[.int .i64 V, .slice a es.length c, .slice ua cs.length uc] 35
  replace S0 := Lib.hid S0
  cases hq : inB V 1 8
  · have HN : Hid (chargedB V es cs = false) := charged_head (by unfold headB; rw [hq]; rfl)
    go_enter Try.func74, Try.ntmps74
    go_wp2_with (go_at_call 51; refine (l1In_any _ _ _ _).mono ?_; rw [hq]; rintro e w1 ⟨rfl, rfl⟩)
    go_ret
    exact ⟨ret_bool HN.out.symm, S0.out.below⟩
  by_cases h12 : (12 : Int) < es.length
  · have HN : Hid (chargedB V es cs = false) := charged_head (by unfold headB; rw [decide_eq_false (p := es.length ≤ 12) (by omega)]; simp)
    go_enter Try.func74, Try.ntmps74
    go_wp2_with (go_at_call 51; refine (l1In_any _ _ _ _).mono ?_; rw [hq]; rintro e w1 ⟨rfl, rfl⟩)
    go_ret
    exact ⟨ret_bool HN.out.symm, S0.out.below⟩
  by_cases hV0 : ¬ (cs.length : Int) = V
  · have HN : Hid (chargedB V es cs = false) := charged_head (by unfold headB; rw [decide_eq_false hV0]; simp)
    have hV' : ((cs.length : Int) != V) = true := by simpa using hV0
    clear hV0
    go_enter Try.func74, Try.ntmps74
    go_wp2_with (go_at_call 51; refine (l1In_any _ _ _ _).mono ?_; rw [hq]; rintro e w1 ⟨rfl, rfl⟩)
    go_ret
    exact ⟨ret_bool HN.out.symm, S0.out.below⟩
  have hV : (cs.length : Int) = V := Decidable.not_not.1 hV0
  clear hV0
  have hhead : headB V es cs = true := by unfold headB; rw [hq, decide_eq_true (p := es.length ≤ 12) (by omega), decide_eq_true hV]; rfl
  have hV8 : 1 ≤ V ∧ V ≤ 8 := inB_true.1 hq
  have hhead := Lib.hid hhead
  subst hV
  have hVw1 : IntKind.i64.wrap ((cs.length : Int) - 1) = (cs.length : Int) - 1 := IntWalk.i64_in _ (by omega)
  have hall := Lib.hid fun h1 h2 => charged_all hhead.out h1 h2
  have hce := Lib.hid fun k hk h => @charged_edge (cs.length : Int) es cs k hk h
  have hcv := Lib.hid fun k hk h => @charged_vert (cs.length : Int) es cs k hk h
  clear hhead
  go_enter Try.func74, Try.ntmps74
  go_wp2_with (go_at_call 51; refine (l1In_any _ _ _ _).mono ?_; rw [hq]; rintro e w1 ⟨rfl, rfl⟩)
  clear hq
  go_loopw [3] (fun i wr => ∃ k : Nat, k ≤ es.length ∧ i = .int .i64 k ∧ Hid ((es.take k).all (edgeOk (cs.length : Int)) = true) ∧ Hid (Sp w wr [ChBox w.heap.size cs.length (.slice a es.length c) (.slice ua cs.length uc)])) (fun i _ => es.length - (intOf i).toNat)
  case atStart => exact ⟨0, Nat.zero_le _, rfl, by simp [Hid], S0⟩
  case round =>
    obtain ⟨k, hk, rfl, HE, HR⟩ := hrel
    clear S0
    have c0 := HR.out.cell (i := 0) rfl (o := 0) rfl
    have c1 := HR.out.cell (i := 0) rfl (o := 1) rfl
    have d0 := cell_regrown c0
    have d1 := cell_regrown c1
    by_cases hlt : k < es.length
    · rcases hx3 with ⟨rfl, rfl⟩ | ⟨hxn, b, off, rfl, rfl, hxc⟩
      · exact absurd hlt (by simp)
      have hB := HR.out.below
      have k0 := cell_regrown ((hxc k hlt).1.keep (hB.block b (hxc k hlt).1.lt)).1
      have k1 := cell_regrown ((hxc k hlt).2.keep (hB.block b (hxc k hlt).2.lt)).1
      have hstep := Lib.hid (edges_step hlt HE.out)
      have hbad := Lib.hid (hce.out k hlt)
      clear hxc hB HE hall
      generalize es[k] = e at k0 k1 hstep hbad
      obtain ⟨e1, e2⟩ := e
      simp only at k0 k1
      cases q1 : inB e1 0 ((cs.length : Int) - 1)
      · have HN : Hid (chargedB cs.length es cs = false) := hbad.out (by simp [edgeOk, q1])
        clear hstep hbad
        go_wp2_with fail
        refine wp_region_quiet_below (by kernel_rfl) (by kernel_rfl) ?_
        repeat (any_goals (first | go_big_quiet_step ((go_at_call 51; exact Calls.regrown_of (l1In_at q1 _)))))
        refine wpQuiet_nil ?_
        rintro w1 ⟨p', rfl⟩
        have HR1 := HR.out.grow (below_regrown wr p'.1 p'.2)
        go_wp2_with fail
        go_ret
        exact ⟨ret_bool HN.out.symm, HR1.below⟩
      cases q2 : inB e2 0 ((cs.length : Int) - 1)
      · have HN : Hid (chargedB cs.length es cs = false) := hbad.out (by simp [edgeOk, q2])
        clear hstep hbad
        go_wp2_with fail
        refine wp_region_quiet_below (by kernel_rfl) (by kernel_rfl) ?_
        repeat (any_goals (first | go_big_quiet_step ((go_at_call 51; first | (with_reducible exact Calls.regrown_of (l1In_at q1 _)) | (with_reducible exact Calls.regrown_of (l1In_at q2 _))))))
        refine wpQuiet_nil ?_
        rintro w1 ⟨p', rfl⟩
        have HR1 := HR.out.grow (below_regrown wr p'.1 p'.2)
        go_wp2_with fail
        go_ret
        exact ⟨ret_bool HN.out.symm, HR1.below⟩
      by_cases hc : e1 < e2
      · have HN := Lib.hid (hstep.out (by simp [edgeOk, q1, q2, hc]))
        clear hstep hbad
        go_wp2_with fail
        refine wp_region_quiet_below (by kernel_rfl) (by kernel_rfl) ?_
        repeat (any_goals (first | go_big_quiet_step ((go_at_call 51; first | (with_reducible exact Calls.regrown_of (l1In_at q1 _)) | (with_reducible exact Calls.regrown_of (l1In_at q2 _))))))
        refine wpQuiet_nil ?_
        rintro w1 ⟨p', rfl⟩
        have HR1 := Lib.hid (HR.out.grow (below_regrown wr p'.1 p'.2))
        go_wp2_with fail
        go_roundw
        case rel => exact ⟨k + 1, by omega, by go_num, HN, HR1⟩
        case measure => simp [intOf]; omega
      · have HN : Hid (chargedB cs.length es cs = false) := hbad.out (by simp [edgeOk, hc])
        clear hstep hbad
        go_wp2_with fail
        refine wp_region_quiet_below (by kernel_rfl) (by kernel_rfl) ?_
        repeat (any_goals (first | go_big_quiet_step ((go_at_call 51; first | (with_reducible exact Calls.regrown_of (l1In_at q1 _)) | (with_reducible exact Calls.regrown_of (l1In_at q2 _))))))
        refine wpQuiet_nil ?_
        rintro w1 ⟨p', rfl⟩
        have HR1 := HR.out.grow (below_regrown wr p'.1 p'.2)
        go_wp2_with fail
        go_ret
        exact ⟨ret_bool HN.out.symm, HR1.below⟩
    · obtain rfl : k = es.length := by omega
      have hall2 := Lib.hid (hall.out HE.out)
      clear HE hall hce
      go_wp2_with fail
      go_loopw [4] (fun i wr => ∃ k : Nat, k ≤ cs.length ∧ i = .int .i64 k ∧ Hid (vertsTo es cs k = true) ∧ Hid (Sp w wr [ChBox w.heap.size cs.length (.slice a es.length c) (.slice ua cs.length uc)])) (fun i _ => cs.length - (intOf i).toNat)
      case atStart => exact ⟨0, Nat.zero_le _, rfl, by simp [Hid, vertsTo], HR⟩
      case round =>
        obtain ⟨k, hk, rfl, HE, HR⟩ := hrel
        clear c0 c1 d0 d1
        have c0 := HR.out.cell (i := 0) rfl (o := 0) rfl
        have c1 := HR.out.cell (i := 0) rfl (o := 1) rfl
        have c2 := HR.out.cell (i := 0) rfl (o := 2) rfl
        by_cases hlt : k < cs.length
        · rcases hy3 with ⟨rfl, rfl⟩ | ⟨hyn, b, off, rfl, rfl, hyc⟩
          · exact absurd hlt (by simp)
          have hB := HR.out.below
          have k0 := ((hyc k hlt).keep (hB.block b (hyc k hlt).lt)).1
          have hstep := Lib.hid (verts_step HE.out)
          have hbad := Lib.hid (hcv.out k hlt)
          have hvo : vertOk es cs k = (inB cs[k] 0 1 && decide (cntTo es k es.length ≤ 4)) := by unfold vertOk; rw [List.getD_eq_getElem?_getD, List.getElem?_eq_getElem hlt]; rfl
          have hxr := Lib.hid (Ty.row_below hx hB (Ty.row_lt hx))
          rw [hvo] at hstep hbad
          clear hyc hB HE hvo hall2
          generalize cs[k] = e at k0 hstep hbad
          cases q1 : inB e 0 1
          · have HN : Hid (chargedB cs.length es cs = false) := hbad.out (by simp [q1])
            clear hstep hbad
            go_wp2_with (go_at_call 51; refine (l1In_any _ _ _ _).mono ?_; rw [q1]; rintro e w1 ⟨rfl, rfl⟩)
            go_ret
            exact ⟨ret_bool HN.out.symm, HR.out.below⟩
          by_cases hn : cntTo es k es.length ≤ 4
          · have HN := Lib.hid (hstep.out (by simp [q1, hn]))
            clear hstep hbad
            go_wp2_with (first
              | (go_at_call 51; refine (l1In_any _ _ _ _).mono ?_; rw [q1]; rintro e w1 ⟨rfl, rfl⟩)
              | (go_at_call 90; refine (l27At_any _ _ _ _ _ es k F _ hxr.out (by omega)).mono ?_; rintro e w1 ⟨za, zc, rfl, hb1⟩))
            have HR1 := Lib.hid (HR.out.grow hb1)
            go_roundw
            case rel => exact ⟨k + 1, by omega, by go_num, HN, HR1⟩
            case measure => simp [intOf]; omega
          · have HN : Hid (chargedB cs.length es cs = false) := hbad.out (by simp [hn])
            clear hstep hbad
            have hn' : (4 : Int) < (cntTo es k es.length : Nat) := by omega
            go_wp2_with (first
              | (go_at_call 51; refine (l1In_any _ _ _ _).mono ?_; rw [q1]; rintro e w1 ⟨rfl, rfl⟩)
              | (go_at_call 90; refine (l27At_any _ _ _ _ _ es k F _ hxr.out (by omega)).mono ?_; rintro e w1 ⟨za, zc, rfl, hb1⟩))
            have HR1 := Lib.hid (HR.out.grow hb1)
            go_ret
            exact ⟨ret_bool HN.out.symm, HR1.out.below⟩
        · obtain rfl : k = cs.length := by omega
          have HN := Lib.hid (hall2.out HE.out)
          go_wp2_with fail
          go_ret
          exact ⟨ret_bool HN.out.symm, HR.out.below⟩
end Go.Proofs.Ytebhkfhdjdgokaa
