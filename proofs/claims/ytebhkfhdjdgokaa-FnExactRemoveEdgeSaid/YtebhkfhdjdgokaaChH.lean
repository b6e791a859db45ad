/- Contracts: which graphs are valid, in the program; which have an edge. -/
import Derived.Test.YtebhkfhdjdgokaaChG
namespace Go.Proofs.Ytebhkfhdjdgokaa
open Go.RowKit

theorem inB_no {x a b : Int} (h : x < a ∨ b < x) : inB x a b = false := by
  rw [← Bool.not_eq_true, inB_true]; omega

set_option maxRecDepth 100000 in
set_option maxHeartbeats 2000000 in
theorem isCharged_any (V : Int) (v u : Value) (es : List (Int × Int)) (cs : List Int) (F G : List Nat) (w : World) (hx : tmTy.row false w v es F) (hy : Ty.int.row false w u cs G) :
    Calls Try.prog 42 #[.agg #[.int .i64 V, v, u]] w fun e w' => e = .returned (.bool (chargedB V es cs)) ∧ Below w.heap.size w w' := by
  obtain ⟨a, c, rfl, hx1, hx2, _, hx3⟩ := row_tm hx
  obtain ⟨ua, uc, rfl, hy1, hy2, _, hy3⟩ := row_int hy
  have S0 := (Sp.start w).alloc_box #[.int .i64 V, .slice a es.length c, .slice ua cs.length uc] 35
  replace S0 := Lib.hid S0
  cases hq : inB V 1 8
  · have HN : Hid (chargedB V es cs = false) := charged_head (by unfold headB; rw [hq]; rfl)
    go_enter Try.func42, Try.ntmps42
    go_wp2_with (go_at_call 53; refine (within_any _ _ _ _).mono ?_; rw [hq]; rintro e w1 ⟨rfl, rfl⟩)
    go_ret
    exact ⟨ret_bool HN.out.symm, S0.out.below⟩
  by_cases h12 : (12 : Int) < es.length
  · have HN : Hid (chargedB V es cs = false) := charged_head (by unfold headB; rw [decide_eq_false (p := es.length ≤ 12) (by omega)]; simp)
    go_enter Try.func42, Try.ntmps42
    go_wp2_with (go_at_call 53; refine (within_any _ _ _ _).mono ?_; rw [hq]; rintro e w1 ⟨rfl, rfl⟩)
    go_ret
    exact ⟨ret_bool HN.out.symm, S0.out.below⟩
  by_cases hV0 : ¬ (cs.length : Int) = V
  · have HN : Hid (chargedB V es cs = false) := charged_head (by unfold headB; rw [decide_eq_false hV0]; simp)
    have hV' : ((cs.length : Int) != V) = true := by simpa using hV0
    clear hV0
    go_enter Try.func42, Try.ntmps42
    go_wp2_with (go_at_call 53; refine (within_any _ _ _ _).mono ?_; rw [hq]; rintro e w1 ⟨rfl, rfl⟩)
    go_ret
    exact ⟨ret_bool HN.out.symm, S0.out.below⟩
  have hV : (cs.length : Int) = V := Decidable.not_not.1 hV0
  clear hV0
  have hhead : headB V es cs = true := by unfold headB; rw [hq, decide_eq_true (p := es.length ≤ 12) (by omega), decide_eq_true hV]; rfl
  have hV8 : 1 ≤ V ∧ V ≤ 8 := inB_true.1 hq
  have hhead := Lib.hid hhead
  subst hV
  have hall := Lib.hid fun h1 h2 => charged_all hhead.out h1 h2
  have hce := Lib.hid fun k hk h => @charged_edge (cs.length : Int) es cs k hk h
  have hcv := Lib.hid fun k hk h => @charged_vert (cs.length : Int) es cs k hk h
  clear hhead
  go_enter Try.func42, Try.ntmps42
  go_wp2_with (go_at_call 53; refine (within_any _ _ _ _).mono ?_; rw [hq]; rintro e w1 ⟨rfl, rfl⟩)
  clear hq
  go_loopw [28] (fun i wr => ∃ k : Nat, k ≤ es.length ∧ i = .int .i64 k ∧ Hid ((es.take k).all (edgeOk (cs.length : Int)) = true) ∧ Hid (Sp w wr [ChBox w.heap.size cs.length (.slice a es.length c) (.slice ua cs.length uc)])) (fun i _ => es.length - (intOf i).toNat)
  case atStart => exact ⟨0, Nat.zero_le _, rfl, by simp [Hid], S0⟩
  case round =>
    obtain ⟨k, hk, rfl, HE, HR⟩ := hrel
    clear S0
    have c0 := HR.out.cell (i := 0) rfl (o := 0) rfl
    have c1 := HR.out.cell (i := 0) rfl (o := 1) rfl
    by_cases hlt : k < es.length
    · rcases hx3 with ⟨rfl, rfl⟩ | ⟨hxn, b, off, rfl, rfl, hxc⟩
      · exact absurd hlt (by simp)
      have hB := HR.out.below
      have k0 := ((hxc k hlt).1.keep (hB.block b (hxc k hlt).1.lt)).1
      have k1 := ((hxc k hlt).2.keep (hB.block b (hxc k hlt).2.lt)).1
      have hstep := Lib.hid (edges_step hlt HE.out)
      have hbad := Lib.hid (hce.out k hlt)
      clear hxc hB HE hall
      generalize es[k] = e at k0 k1 hstep hbad
      obtain ⟨e1, e2⟩ := e
      simp only at k0 k1
      have HR1 := HR.out.alloc (.cells #[.int .i64 e1, .int .i64 e2] 85)
      have b0 := HR1.cell (i := 0) rfl (o := 0) rfl
      replace HR1 := Lib.hid HR1
      by_cases q1 : e1 < 0
      · have HN : Hid (chargedB cs.length es cs = false) := hbad.out (by unfold edgeOk; rw [inB_no (by omega)]; rfl)
        clear hstep hbad
        go_wp2_with fail
        go_ret
        exact ⟨ret_bool HN.out.symm, HR1.out.below⟩
      by_cases q2 : e1 < e2
      · by_cases q3 : e2 < cs.length
        · have HN := Lib.hid (hstep.out (by unfold edgeOk; rw [inB_true.2 (by omega), inB_true.2 (by omega), decide_eq_true q2]; rfl))
          clear hstep hbad
          go_wp2_with fail
          go_roundw
          case rel => exact ⟨k + 1, by omega, by go_num, HN, HR1⟩
          case measure => simp [intOf]; omega
        · have HN : Hid (chargedB cs.length es cs = false) := hbad.out (by unfold edgeOk; rw [inB_no (x := e2) (by omega)]; simp)
          clear hstep hbad
          go_wp2_with fail
          go_ret
          exact ⟨ret_bool HN.out.symm, HR1.out.below⟩
      · have HN : Hid (chargedB cs.length es cs = false) := hbad.out (by unfold edgeOk; rw [decide_eq_false q2]; simp)
        clear hstep hbad
        go_wp2_with fail
        go_ret
        exact ⟨ret_bool HN.out.symm, HR1.out.below⟩
    · obtain rfl : k = es.length := by omega
      have c2 := HR.out.cell (i := 0) rfl (o := 2) rfl
      have hall2 := Lib.hid (hall.out HE.out)
      clear HE hall hce
      go_wp2_with fail
      go_loopw [53] (fun i wr => ∃ k : Nat, k ≤ cs.length ∧ i = .int .i64 k ∧ Hid (vertsTo es cs k = true) ∧ Hid (Sp w wr [ChBox w.heap.size cs.length (.slice a es.length c) (.slice ua cs.length uc)])) (fun i _ => cs.length - (intOf i).toNat)
      case atStart => exact ⟨0, Nat.zero_le _, rfl, by simp [Hid, vertsTo], HR⟩
      case round =>
        obtain ⟨k, hk, rfl, HE, HR⟩ := hrel
        clear c0 c1 c2
        have c0 := HR.out.cell (i := 0) rfl (o := 0) rfl
        have c1 := HR.out.cell (i := 0) rfl (o := 1) rfl
        have c2 := HR.out.cell (i := 0) rfl (o := 2) rfl
        by_cases hlt : k < cs.length
        · rcases hy3 with ⟨rfl, rfl⟩ | ⟨hyn, b, off, rfl, rfl, hyc⟩
          · exact absurd hlt (by simp)
          have hB := HR.out.below
          have k0 := ((hyc k hlt).keep (hB.block b (hyc k hlt).lt)).1
          have hstep := Lib.hid (verts_step HE.out)
          have hbad := Lib.hid (hcv.out k hlt)
          have hvo : vertOk es cs k = (inB cs[k] 0 1 && decide (cntTo es k es.length ≤ 4)) := by unfold vertOk; rw [List.getD_eq_getElem?_getD, List.getElem?_eq_getElem hlt]; rfl
          have hxr := Lib.hid (Ty.row_below hx hB (Ty.row_lt hx))
          rw [hvo] at hstep hbad
          clear hyc hB HE hvo hall2
          generalize cs[k] = e at k0 hstep hbad
          cases q1 : inB e 0 1
          · have HN : Hid (chargedB cs.length es cs = false) := hbad.out (by simp [q1])
            clear hstep hbad
            go_wp2_with (go_at_call 53; refine (within_any _ _ _ _).mono ?_; rw [q1]; rintro e w1 ⟨rfl, rfl⟩)
            go_ret
            exact ⟨ret_bool HN.out.symm, HR.out.below⟩
          by_cases hn : cntTo es k es.length ≤ 4
          · have HN := Lib.hid (hstep.out (by simp [q1, hn]))
            clear hstep hbad
            go_wp2_with (first
              | (go_at_call 53; refine (within_any _ _ _ _).mono ?_; rw [q1]; rintro e w1 ⟨rfl, rfl⟩)
              | (go_at_call 76; refine (chargedAt_any _ _ _ _ _ es k F _ hxr.out (by omega)).mono ?_; rintro e w1 ⟨za, zc, rfl, hb1⟩))
            have HR1 := Lib.hid (HR.out.grow hb1)
            go_roundw
            case rel => exact ⟨k + 1, by omega, by go_num, HN, HR1⟩
            case measure => simp [intOf]; omega
          · have HN : Hid (chargedB cs.length es cs = false) := hbad.out (by simp [hn])
            clear hstep hbad
            have hn' : (4 : Int) < (cntTo es k es.length : Nat) := by omega
            go_wp2_with (first
              | (go_at_call 53; refine (within_any _ _ _ _).mono ?_; rw [q1]; rintro e w1 ⟨rfl, rfl⟩)
              | (go_at_call 76; refine (chargedAt_any _ _ _ _ _ es k F _ hxr.out (by omega)).mono ?_; rintro e w1 ⟨za, zc, rfl, hb1⟩))
            have HR1 := Lib.hid (HR.out.grow hb1)
            go_ret
            exact ⟨ret_bool HN.out.symm, HR1.out.below⟩
        · obtain rfl : k = cs.length := by omega
          have HN := Lib.hid (hall2.out HE.out)
          go_wp2_with fail
          go_ret
          exact ⟨ret_bool HN.out.symm, HR.out.below⟩

def edgeB (V : Int) (es : List (Int × Int)) (cs : List Int) (k : Int) : Bool := chargedB V es cs && inB k 0 ((es.length : Int) - 1)

set_option maxHeartbeats 1000000 in
theorem l27Edge_any (V k : Int) (v u : Value) (es : List (Int × Int)) (cs : List Int) (F G : List Nat) (w : World) (hx : tmTy.row false w v es F) (hy : Ty.int.row false w u cs G) :
    Calls Try.prog 38 #[.agg #[.int .i64 V, v, u], .int .i64 k] w fun e w' => e = .returned (.bool (edgeB V es cs k)) ∧ Below w.heap.size w w' := by
  obtain ⟨a, c, rfl, hx1, hx2⟩ := Ty.row_len hx
  obtain ⟨ua, uc, rfl, hy1, hy2⟩ := Ty.row_len hy
  have S0 := (Sp.start w).alloc_box #[.int .i64 V, .slice a es.length c, .slice ua cs.length uc] 35
  replace S0 := Lib.hid S0
  obtain ⟨q, hq⟩ : ∃ q, chargedB V es cs = q := ⟨_, rfl⟩
  unfold edgeB
  rw [hq]
  have hq' := Lib.hid hq
  clear hq
  cases q
  · go_enter Try.func38, Try.ntmps38
    go_wp2_with (go_at_call 74; refine (l27Good_any V _ _ es cs F G _ (Ty.row_below hx S0.out.below (Ty.row_lt hx)) (Ty.row_below hy S0.out.below (Ty.row_lt hy))).mono ?_; rw [hq'.out]; rintro e w1 ⟨rfl, hb1⟩)
    go_ret
    exact ⟨rfl, (S0.out.grow hb1).below⟩
  · have hl := (charged_facts hq'.out).2.2.1
    go_enter Try.func38, Try.ntmps38
    go_wp2_with fail
    refine (l27Good_any V _ _ es cs F G _ (Ty.row_below hx S0.out.below (Ty.row_lt hx)) (Ty.row_below hy S0.out.below (Ty.row_lt hy))).mono ?_
    rw [hq'.out]
    rintro e w1 ⟨rfl, hb1⟩
    have S1 := S0.out.grow hb1
    have c1 := S1.cell (i := 0) rfl (o := 1) rfl
    have S1 := Lib.hid S1
    go_wp2_with (go_at_call 51; refine (l1In_any _ _ _ _).mono ?_; rintro e w1 ⟨rfl, rfl⟩)
    go_ret
    exact ⟨rfl, S1.out.below⟩

set_option maxHeartbeats 1000000 in
theorem isEdge_any (V k : Int) (v u : Value) (es : List (Int × Int)) (cs : List Int) (F G : List Nat) (w : World) (hx : tmTy.row false w v es F) (hy : Ty.int.row false w u cs G) (hl : es.length ≤ 12) :
    Calls Try.prog 43 #[.agg #[.int .i64 V, v, u], .int .i64 k] w fun e w' => e = .returned (.bool (inB k 0 ((es.length : Int) - 1))) ∧ Below w.heap.size w w' := by
  obtain ⟨a, c, rfl, hx1, hx2⟩ := Ty.row_len hx
  obtain ⟨ua, uc, rfl, hy1, hy2⟩ := Ty.row_len hy
  have S0 := (Sp.start w).alloc_box #[.int .i64 V, .slice a es.length c, .slice ua cs.length uc] 35
  replace S0 := Lib.hid S0
  go_enter Try.func43, Try.ntmps43
  go_wp2_with (go_at_call 53; refine (within_any _ _ _ _).mono ?_; rintro e w1 ⟨rfl, rfl⟩)
  go_ret
  exact ⟨rfl, S0.out.below⟩
end Go.Proofs.Ytebhkfhdjdgokaa
