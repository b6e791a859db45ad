/- Contracts: questions on closures, in the reference. -/
import Derived.Test.YtebpknekaljgnaaNwL
namespace Go.Proofs.Ytebpknekaljgnaa
open Go.RowKit

/-- A valid Cnf of few variables. -/
def narB (vars : Int) (F0 : List (List Int)) : Bool := decide (vars ≤ 6) && goodB vars F0
theorem nar_good {vars : Int} {F0 : List (List Int)} (h : narB vars F0 = true) : GoodF vars F0 ∧ F0.length ≤ 60 := by
  simp only [narB, goodB, Bool.and_eq_true, decide_eq_true_eq, inB_true, List.all_eq_true] at h
  obtain ⟨h6, ⟨⟨h0, _⟩, h60⟩, hc⟩ := h
  exact ⟨⟨h0, h6, fun c hm => good_of (hc c hm) h6⟩, h60⟩

set_option maxHeartbeats 1000000 in
theorem l10Good_any (vars : Int) (v : Value) (F0 : List (List Int)) (F : List Nat) (w : World) (hx : (Ty.slice Ty.int).row false w v F0 F) :
    Calls Try.prog 27 #[.agg #[.int .i64 vars, v]] w fun e w' => e = .returned (.bool (narB vars F0)) ∧ Below w.heap.size w w' := by
  obtain ⟨a, c, rfl, _, _⟩ := Ty.row_len hx
  by_cases h6 : vars ≤ 6
  · have hd : Hid (narB vars F0 = goodB vars F0) := by unfold Hid narB; rw [decide_eq_true h6]; rfl
    go_enter Try.func27, Try.ntmps27
    go_wp2_with fail
    refine (l2Good_any vars _ F0 F _ (Ty.row_grow hx (bal (bb _) _))).mono ?_
    rintro e w1 ⟨rfl, hb1⟩
    have hB := btr (bal (bb w) (.cells #[.int .i64 vars, .slice a F0.length c] 29)) hb1
    go_wp2_with fail
    go_ret
    exact ⟨ret_bool hd.out.symm, hB⟩
  · have hd : Hid (narB vars F0 = false) := by unfold Hid narB; rw [decide_eq_false h6]; rfl
    go_enter Try.func27, Try.ntmps27
    go_wp2_with fail
    go_ret
    exact ⟨ret_bool hd.out.symm, bal (bb _) _⟩
set_option maxHeartbeats 400000 in
theorem l10Width_any (x : Int) (w : World) : Calls Try.prog 28 #[.int .i64 x] w fun e w' => e = .returned (.bool (inB x 0 6)) ∧ w = w' := by
  go_enter Try.func28, Try.ntmps28
  go_wp2_with (go_at_call 46; refine (l1In_any _ _ _ _).mono ?_; rintro e w1 ⟨rfl, rfl⟩)
  go_ret
  exact ⟨rfl, rfl⟩

/-- An answer that is told by a fact. -/
structure Tells (ok : Bool) (P : Prop) (q : Bool) : Prop where
  no : ok = false → q = false
  yes : ok = true → (q = true ↔ P)
theorem Tells.one {ok : Bool} {P : Prop} {q q' : Bool} (h : Tells ok P q) (h' : Tells ok P q') : q = q' := by
  cases ok
  · rw [h.no rfl, h'.no rfl]
  · rw [Bool.eq_iff_iff, h.yes rfl, h'.yes rfl]
/-- Two answers, the second one says whether there is a first one. -/
def TwoPost (ok : Bool) (P : Prop) (w : World) (e : Ending) (w' : World) : Prop := ∃ q, e = .returned (.tuple #[.bool q, .bool ok]) ∧ Tells ok P q ∧ Below w.heap.size w w'

theorem work_field5 (a0 a1 a2 a3 a4 a5 : Option Addr) (n0 n1 n2 n3 n4 n5 c0 c1 c2 c3 c4 c5 : Nat) (w : World) : (Instr.field 50 (.agg #[.slice a0 n0 c0, .slice a1 n1 c1, .slice a2 n2 c2, .slice a3 n3 c3, .slice a4 n4 c4, .slice a5 n5 c5]) 5).run Try.prog w = .ok (.slice a5 n5 c5) w := by kernel_rfl

set_option maxRecDepth 100000 in
set_option maxHeartbeats 4000000 in
theorem specIsIn_any (vars width : Int) (v u : Value) (F0 : List (List Int)) (c : List Int) (F G : List Nat) (w : World) (hx : (Ty.slice Ty.int).row false w v F0 F) (hy : Ty.int.row false w u c G) :
    Calls Try.prog 9 #[.agg #[.int .i64 vars, v], .int .i64 width, u] w (TwoPost (narB vars F0 && inB width 0 6 && clauseB vars c) (∃ r, inR F0 width r c) w) := by
  obtain ⟨a, cp, rfl, _, _⟩ := Ty.row_len hx
  obtain ⟨ua, uc, rfl, _, _⟩ := Ty.row_len hy
  have S0 := (Sp.start w).alloc_box #[.int .i64 vars, .slice a F0.length cp] 29
  replace S0 := Lib.hid S0
  have hxr := Lib.hid hx
  have hyr := Lib.hid hy
  cases hq1 : narB vars F0
  · go_enter Try.func9, Try.ntmps9
    go_wp2_with fail
    refine (l10Good_any vars _ F0 F _ (Ty.row_below hxr.out S0.out.below (Ty.row_lt hxr.out))).mono ?_
    rw [hq1]
    rintro e w1 ⟨rfl, hb1⟩
    have S1 := Lib.hid (S0.out.grow hb1)
    go_wp2_with fail
    go_ret2
    exact ⟨_, rfl, ⟨fun _ => rfl, fun h => (by cases h)⟩, S1.out.below⟩
  cases hq2 : inB width 0 6
  · go_enter Try.func9, Try.ntmps9
    go_wp2_with fail
    refine (l10Good_any vars _ F0 F _ (Ty.row_below hxr.out S0.out.below (Ty.row_lt hxr.out))).mono ?_
    rw [hq1]
    rintro e w1 ⟨rfl, hb1⟩
    have S1 := Lib.hid (S0.out.grow hb1)
    go_wp2_with (go_at_call 28; refine (l10Width_any _ _).mono ?_; rw [hq2]; rintro e w2 ⟨rfl, rfl⟩)
    go_ret2
    exact ⟨_, rfl, ⟨fun _ => rfl, fun h => (by cases h)⟩, S1.out.below⟩
  have hw6 := inB_true.1 hq2
  obtain ⟨hG, h60⟩ := nar_good hq1
  cases hq3 : clauseB vars c
  · go_enter Try.func9, Try.ntmps9
    go_wp2_with fail
    refine (l10Good_any vars _ F0 F _ (Ty.row_below hxr.out S0.out.below (Ty.row_lt hxr.out))).mono ?_
    rw [hq1]
    rintro e w1 ⟨rfl, hb1⟩
    have S1 := S0.out.grow hb1
    have c0 := S1.cell (i := 0) rfl (o := 0) rfl
    replace S1 := Lib.hid S1
    go_wp2_with (go_at_call 28; refine (l10Width_any _ _).mono ?_; rw [hq2]; rintro e w2 ⟨rfl, rfl⟩)
    refine (l2Clause_at (Ty.row_below hyr.out S1.out.below (Ty.row_lt hyr.out)) hq3).mono ?_
    rintro e w2 ⟨rfl, hb2⟩
    have S2 := Lib.hid (S1.out.grow hb2)
    go_wp2_with fail
    go_ret2
    exact ⟨_, rfl, ⟨fun _ => rfl, fun h => (by cases h)⟩, S2.out.below⟩
  have hgc := (good_of hq3 hG.2.1).1
  replace hG := Lib.hid hG
  go_enter Try.func9, Try.ntmps9
  go_wp2_with fail
  refine (l10Good_any vars _ F0 F _ (Ty.row_below hxr.out S0.out.below (Ty.row_lt hxr.out))).mono ?_
  rw [hq1]
  rintro e w1 ⟨rfl, hb1⟩
  have S1 := S0.out.grow hb1
  have c0 := S1.cell (i := 0) rfl (o := 0) rfl
  replace S1 := Lib.hid S1
  go_wp2_with (go_at_call 28; refine (l10Width_any _ _).mono ?_; rw [hq2]; rintro e w2 ⟨rfl, rfl⟩)
  refine (l2Clause_at (Ty.row_below hyr.out S1.out.below (Ty.row_lt hyr.out)) hq3).mono ?_
  rintro e w2 ⟨rfl, hb2⟩
  have S2 := S1.out.grow hb2
  have d0 := S2.cell (i := 0) rfl (o := 0) rfl
  have d1 := S2.cell (i := 0) rfl (o := 1) rfl
  replace S2 := Lib.hid S2
  clear S0 S1 c0 hb1 hb2 hx hy
  go_wp2_with fail
  refine (l10Closure_any vars width _ F0 F _ (Ty.row_below hxr.out S2.out.below (Ty.row_lt hxr.out)) hG.out hw6.1 hw6.2 (by omega)).mono ?_
  rintro e w3 ⟨lv, rv, av, bv, pv, sv, kl, ks, Kp, R, A, B, C, rfl, T3, hClo, hAsc, hsame, hml, hms⟩
  obtain ⟨la, lc, rfl, -, -⟩ := own_src (T3.own (i := 0) rfl)
  obtain ⟨ra, rc, rfl, -, -⟩ := own_src (T3.own (i := 1) rfl)
  obtain ⟨aa, ac, rfl, -, -⟩ := own_src (T3.own (i := 2) rfl)
  obtain ⟨ba, bc, rfl, -, -⟩ := own_src (T3.own (i := 3) rfl)
  obtain ⟨pa, pc, rfl, -, -⟩ := own_src (T3.own (i := 4) rfl)
  obtain ⟨sa, sc, rfl, -, -⟩ := own_src (T3.own (i := 5) rfl)
  obtain ⟨Fs, rs⟩ := T3.cls_row (i := 5) (j := 6) rfl rfl hms
  have S3 := S2.out.seq T3
  have hgs : ∀ x ∈ ks.map Prod.snd, Good x := fun x hx => (hClo.good hG.out x ((hsame x).1 hx)).1
  have hln := good_few hAsc.nodup hgs
  obtain ⟨z, hz, hcall⟩ := l2At_q rs (Ty.row_below hyr.out S3.below (Ty.row_lt hyr.out)) hgs hgc (by omega) hAsc
  have hT : Hid (0 ≤ z ↔ ∃ r, inR F0 width r c) := (hz.trans (hsame c)).trans hClo.mem
  replace S3 := Lib.hid S3
  replace hcall := Lib.hid hcall
  clear T3 S2 hClo hAsc hsame hml hms rs hgs hz d0 d1
  have fx := fun w => work_field5 la ra aa ba pa sa kl.length R.length A.length B.length C.length ks.length lc rc ac bc pc sc w
  go_wp2_with fail
  refine hcall.out.mono ?_
  rintro e w4 ⟨rfl, hb4⟩
  have hB := (S3.out.grow hb4).below
  go_wp2_with fail
  go_ret2
  exact ⟨_, rfl, ⟨fun h => (by cases h), fun _ => by rw [decide_eq_true_eq]; exact hT.out⟩, hB⟩

set_option maxHeartbeats 1000000 in
theorem l10Empty_any (v : Value) (L : List (List Int)) (F : List Nat) (w : World) (hx : (Ty.slice Ty.int).row false w v L F) (ha : Asc L) :
    ∃ q, (q = true ↔ [] ∈ L) ∧ Calls Try.prog 38 #[v] w fun e w' => e = .returned (.bool q) ∧ w = w' := by
  obtain ⟨a, cap, rfl, hx1, hx2, hx3⟩ := row_slices hx
  rcases hx3 with ⟨rfl, rfl⟩ | ⟨hxn, b, off, rfl, _, hxc⟩
  · refine ⟨false, by simp, ?_⟩
    go_enter Try.func38, Try.ntmps38
    go_wp2_with fail
    go_ret
    exact ⟨rfl, rfl⟩
  · have h0 : 0 < L.length := List.length_pos_iff.2 hxn
    obtain ⟨x, Fk, hc, hr, _⟩ := hxc 0 h0
    obtain ⟨xa, xc, rfl, _, _⟩ := Ty.row_len hr
    have k0 := hc.1
    rw [Nat.add_zero] at k0
    have h0I : (0 : Int) < (L.length : Int) := by omega
    have he := ha.empty
    refine ⟨decide (L[0].length = 0), ?_, ?_⟩
    · rw [he, decide_eq_true_eq, List.length_eq_zero_iff]
      exact ⟨fun h => ⟨h0, h⟩, fun ⟨_, h⟩ => h⟩
    · by_cases hz : L[0].length = 0
      · have hzI : ((L[0].length : Int) == 0) = true := by simp [hz]
        have hd : Hid (decide (L[0].length = 0) = true) := decide_eq_true hz
        rw [hd.out]
        clear hd he hxc hc hr hx hz
        generalize L[0].length = m at *
        go_enter Try.func38, Try.ntmps38
        go_wp2_with fail
        go_ret
        exact ⟨rfl, rfl⟩
      · have hzI : ((L[0].length : Int) == 0) = false := by rw [beq_eq_false_iff_ne]; omega
        have hd : Hid (decide (L[0].length = 0) = false) := decide_eq_false hz
        rw [hd.out]
        clear hd he hxc hc hr hx hz
        generalize L[0].length = m at *
        go_enter Try.func38, Try.ntmps38
        go_wp2_with fail
        go_ret
        exact ⟨rfl, rfl⟩

set_option maxRecDepth 100000 in
set_option maxHeartbeats 4000000 in
theorem specHasNarrow_any (vars width : Int) (v : Value) (F0 : List (List Int)) (F : List Nat) (w : World) (hx : (Ty.slice Ty.int).row false w v F0 F) :
    Calls Try.prog 15 #[.agg #[.int .i64 vars, v], .int .i64 width] w (TwoPost (narB vars F0 && inB width 0 6) (∃ r, inR F0 width r []) w) := by
  obtain ⟨a, cp, rfl, _, _⟩ := Ty.row_len hx
  have S0 := (Sp.start w).alloc_box #[.int .i64 vars, .slice a F0.length cp] 29
  replace S0 := Lib.hid S0
  have hxr := Lib.hid hx
  cases hq1 : narB vars F0
  · go_enter Try.func15, Try.ntmps15
    go_wp2_with fail
    refine (l10Good_any vars _ F0 F _ (Ty.row_below hxr.out S0.out.below (Ty.row_lt hxr.out))).mono ?_
    rw [hq1]
    rintro e w1 ⟨rfl, hb1⟩
    have S1 := Lib.hid (S0.out.grow hb1)
    go_wp2_with fail
    go_ret2
    exact ⟨_, rfl, ⟨fun _ => rfl, fun h => (by cases h)⟩, S1.out.below⟩
  cases hq2 : inB width 0 6
  · go_enter Try.func15, Try.ntmps15
    go_wp2_with fail
    refine (l10Good_any vars _ F0 F _ (Ty.row_below hxr.out S0.out.below (Ty.row_lt hxr.out))).mono ?_
    rw [hq1]
    rintro e w1 ⟨rfl, hb1⟩
    have S1 := Lib.hid (S0.out.grow hb1)
    go_wp2_with (go_at_call 28; refine (l10Width_any _ _).mono ?_; rw [hq2]; rintro e w2 ⟨rfl, rfl⟩)
    go_ret2
    exact ⟨_, rfl, ⟨fun _ => rfl, fun h => (by cases h)⟩, S1.out.below⟩
  have hw6 := inB_true.1 hq2
  obtain ⟨hG, h60⟩ := nar_good hq1
  replace hG := Lib.hid hG
  go_enter Try.func15, Try.ntmps15
  go_wp2_with fail
  refine (l10Good_any vars _ F0 F _ (Ty.row_below hxr.out S0.out.below (Ty.row_lt hxr.out))).mono ?_
  rw [hq1]
  rintro e w1 ⟨rfl, hb1⟩
  have S1 := S0.out.grow hb1
  have c0 := S1.cell (i := 0) rfl (o := 0) rfl
  have d1 := S1.cell (i := 0) rfl (o := 1) rfl
  replace S1 := Lib.hid S1
  clear S0 hb1 hx
  go_wp2_with (go_at_call 28; refine (l10Width_any _ _).mono ?_; rw [hq2]; rintro e w2 ⟨rfl, rfl⟩)
  refine (l10Closure_any vars width _ F0 F _ (Ty.row_below hxr.out S1.out.below (Ty.row_lt hxr.out)) hG.out hw6.1 hw6.2 (by omega)).mono ?_
  rintro e w3 ⟨lv, rv, av, bv, pv, sv, kl, ks, Kp, R, A, B, C, rfl, T3, hClo, hAsc, hsame, hml, hms⟩
  obtain ⟨la, lc, rfl, -, -⟩ := own_src (T3.own (i := 0) rfl)
  obtain ⟨ra, rc, rfl, -, -⟩ := own_src (T3.own (i := 1) rfl)
  obtain ⟨aa, ac, rfl, -, -⟩ := own_src (T3.own (i := 2) rfl)
  obtain ⟨ba, bc, rfl, -, -⟩ := own_src (T3.own (i := 3) rfl)
  obtain ⟨pa, pc, rfl, -, -⟩ := own_src (T3.own (i := 4) rfl)
  obtain ⟨sa, sc, rfl, -, -⟩ := own_src (T3.own (i := 5) rfl)
  obtain ⟨Fs, rs⟩ := T3.cls_row (i := 5) (j := 6) rfl rfl hms
  have S3 := S1.out.seq T3
  have hgs : ∀ x ∈ ks.map Prod.snd, Good x := fun x hx => (hClo.good hG.out x ((hsame x).1 hx)).1
  obtain ⟨z, hz, hcall⟩ := l10Empty_any _ _ _ _ rs hAsc
  have hT : Hid (z = true ↔ ∃ r, inR F0 width r []) := (hz.trans (hsame [])).trans hClo.mem
  replace S3 := Lib.hid S3
  replace hcall := Lib.hid hcall
  clear T3 S1 hClo hAsc hsame hml hms rs hgs hz c0 d1
  have fx := fun w => work_field5 la ra aa ba pa sa kl.length R.length A.length B.length C.length ks.length lc rc ac bc pc sc w
  go_wp2_with fail
  refine hcall.out.mono ?_
  rintro e w4 ⟨rfl, rfl⟩
  have hB := S3.out.below
  go_wp2_with fail
  go_ret2
  exact ⟨_, rfl, ⟨fun h => (by cases h), fun _ => hT.out⟩, hB⟩
end Go.Proofs.Ytebpknekaljgnaa
