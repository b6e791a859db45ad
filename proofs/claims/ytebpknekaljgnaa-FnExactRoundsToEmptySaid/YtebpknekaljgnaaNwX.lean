/- Contracts: questions on closures, in the program. -/
import Derived.Test.YtebpknekaljgnaaNwW
import Derived.Test.YtebpknekaljgnaaNwR
import Derived.Test.YtebpknekaljgnaaNwT
namespace Go.Proofs.Ytebpknekaljgnaa
open Go.RowKit

theorem nar_eq (vars width : Int) (F0 : List (List Int)) : (goodB vars F0 && decide (vars ≤ 6) && inB width 0 6) = (narB vars F0 && inB width 0 6) := by unfold narB; rw [Bool.and_comm (goodB _ _)]
theorem narrowOk_at {vars width : Int} {v : Value} {F0 : List (List Int)} {F : List Nat} {w : World} {q : Bool} (hx : (Ty.slice Ty.int).row false w v F0 F) (hq : (narB vars F0 && inB width 0 6) = q) :
    Calls Try.prog 33 #[.agg #[.int .i64 vars, v], .int .i64 width] w fun e w' => e = .returned (.bool q) ∧ Below w.heap.size w w' := by
  have := narrowOk_any vars width v F0 F w hx
  rw [nar_eq, hq] at this
  exact this
theorem nar_in {vars width : Int} {F0 : List (List Int)} (h : (narB vars F0 && inB width 0 6) = true) : narB vars F0 = true ∧ 0 ≤ width ∧ width ≤ 6 := by
  rw [Bool.and_eq_true] at h
  exact ⟨h.1, inB_true.1 h.2⟩

set_option maxRecDepth 100000 in
set_option maxHeartbeats 4000000 in
theorem implIsIn_any (vars width : Int) (v u : Value) (F0 : List (List Int)) (c : List Int) (F G : List Nat) (w : World) (hx : (Ty.slice Ty.int).row false w v F0 F) (hy : Ty.int.row false w u c G) :
    Calls Try.prog 12 #[.agg #[.int .i64 vars, v], .int .i64 width, u] w (TwoPost (narB vars F0 && inB width 0 6 && clauseB vars c) (∃ r, inR F0 width r c) w) := by
  obtain ⟨a, cp, rfl, _, _⟩ := Ty.row_len hx
  obtain ⟨ua, uc, rfl, _, _⟩ := Ty.row_len hy
  have S0 := (Sp.start w).alloc_box #[.int .i64 vars, .slice a F0.length cp] 29
  replace S0 := Lib.hid S0
  have hxr := Lib.hid hx
  have hyr := Lib.hid hy
  clear hx hy
  cases hq1 : (narB vars F0 && inB width 0 6)
  · go_enter Try.func12, Try.ntmps12
    go_wp2_with fail
    refine (narrowOk_at (Ty.row_below hxr.out S0.out.below (Ty.row_lt hxr.out)) hq1).mono ?_
    rintro e w1 ⟨rfl, hb1⟩
    have S1 := Lib.hid (S0.out.grow hb1)
    go_wp2_with fail
    go_ret2
    exact ⟨_, rfl, ⟨fun _ => rfl, fun h => (by cases h)⟩, S1.out.below⟩
  obtain ⟨hq2, hw0, hw6⟩ := nar_in hq1
  obtain ⟨hG, h60⟩ := nar_good hq2
  cases hq3 : clauseB vars c
  · go_enter Try.func12, Try.ntmps12
    go_wp2_with fail
    refine (narrowOk_at (Ty.row_below hxr.out S0.out.below (Ty.row_lt hxr.out)) hq1).mono ?_
    rintro e w1 ⟨rfl, hb1⟩
    have S1 := S0.out.grow hb1
    have c0 := S1.cell (i := 0) rfl (o := 0) rfl
    replace S1 := Lib.hid S1
    go_wp2_with fail
    refine (implIsClause_at (Ty.row_below hyr.out S1.out.below (Ty.row_lt hyr.out)) hq3).mono ?_
    rintro e w2 ⟨rfl, hb2⟩
    have S2 := Lib.hid (S1.out.grow hb2)
    go_wp2_with fail
    go_ret2
    exact ⟨_, rfl, ⟨fun _ => rfl, fun h => (by cases h)⟩, S2.out.below⟩
  have hgc := Lib.hid (good_of hq3 hG.2.1).1
  replace hG := Lib.hid hG
  go_enter Try.func12, Try.ntmps12
  go_wp2_with fail
  refine (narrowOk_at (Ty.row_below hxr.out S0.out.below (Ty.row_lt hxr.out)) hq1).mono ?_
  rintro e w1 ⟨rfl, hb1⟩
  have S1 := S0.out.grow hb1
  have c0 := S1.cell (i := 0) rfl (o := 0) rfl
  replace S1 := Lib.hid S1
  go_wp2_with fail
  refine (implIsClause_at (Ty.row_below hyr.out S1.out.below (Ty.row_lt hyr.out)) hq3).mono ?_
  rintro e w2 ⟨rfl, hb2⟩
  have S2 := S1.out.grow hb2
  have d0 := S2.cell (i := 0) rfl (o := 0) rfl
  have d1 := S2.cell (i := 0) rfl (o := 1) rfl
  replace S2 := Lib.hid S2
  clear S0 S1 c0 hb1 hb2
  go_wp2_with fail
  refine (closureOf_any vars width _ F0 F _ (Ty.row_below hxr.out S2.out.below (Ty.row_lt hxr.out)) hG.out hw0 hw6 (by omega)).mono ?_
  rintro e w3 ⟨bx, mb, L, R, rfl, hXS, hC⟩
  have hB := btr S2.out.below hXS.below
  replace hXS := Lib.hid hXS
  replace hC := Lib.hid hC
  clear S2 d0 d1
  go_wp2_with fail
  refine (roundOf_any hXS.out _ c G (Ty.row_below hyr.out hB (Ty.row_lt hyr.out)) hgc.out).mono ?_
  rintro e w4 ⟨z, rfl, hz, rfl⟩
  have hR := (round_is hC.out hG.out hgc.out hz).pos
  have hB2 := bdr hB
  go_wp2_with fail
  go_ret2
  exact ⟨_, rfl, ⟨fun h => (by cases h), fun _ => by rw [decide_eq_true_eq]; exact hR⟩, hB2⟩

set_option maxRecDepth 100000 in
set_option maxHeartbeats 4000000 in
theorem implHasNarrow_any (vars width : Int) (v : Value) (F0 : List (List Int)) (F : List Nat) (w : World) (hx : (Ty.slice Ty.int).row false w v F0 F) :
    Calls Try.prog 16 #[.agg #[.int .i64 vars, v], .int .i64 width] w (TwoPost (narB vars F0 && inB width 0 6) (∃ r, inR F0 width r []) w) := by
  obtain ⟨a, cp, rfl, _, _⟩ := Ty.row_len hx
  have S0 := (Sp.start w).alloc_box #[.int .i64 vars, .slice a F0.length cp] 29
  replace S0 := Lib.hid S0
  have hxr := Lib.hid hx
  clear hx
  cases hq1 : (narB vars F0 && inB width 0 6)
  · go_enter Try.func16, Try.ntmps16
    go_wp2_with fail
    refine (narrowOk_at (Ty.row_below hxr.out S0.out.below (Ty.row_lt hxr.out)) hq1).mono ?_
    rintro e w1 ⟨rfl, hb1⟩
    have S1 := Lib.hid (S0.out.grow hb1)
    go_wp2_with fail
    go_ret2
    exact ⟨_, rfl, ⟨fun _ => rfl, fun h => (by cases h)⟩, S1.out.below⟩
  obtain ⟨hq2, hw0, hw6⟩ := nar_in hq1
  obtain ⟨hG, h60⟩ := nar_good hq2
  replace hG := Lib.hid hG
  go_enter Try.func16, Try.ntmps16
  go_wp2_with fail
  refine (narrowOk_at (Ty.row_below hxr.out S0.out.below (Ty.row_lt hxr.out)) hq1).mono ?_
  rintro e w1 ⟨rfl, hb1⟩
  have S1 := S0.out.grow hb1
  have c0 := S1.cell (i := 0) rfl (o := 0) rfl
  have c1 := S1.cell (i := 0) rfl (o := 1) rfl
  replace S1 := Lib.hid S1
  clear S0 hb1
  go_wp2_with fail
  refine (narrow_any vars width _ F0 F _ (Ty.row_below hxr.out S1.out.below (Ty.row_lt hxr.out)) hG.out hw0 hw6 (by omega)).mono ?_
  rintro e w2 ⟨q, rfl, hT, hb2⟩
  have hB := (S1.out.grow hb2).below
  replace hT := Lib.hid hT
  go_wp2_with fail
  go_ret2
  exact ⟨_, rfl, ⟨fun h => (by cases h), fun _ => hT.out⟩, hB⟩

set_option maxRecDepth 100000 in
set_option maxHeartbeats 4000000 in
theorem implRounds_any (vars : Int) (v : Value) (F0 : List (List Int)) (F : List Nat) (w : World) (hx : (Ty.slice Ty.int).row false w v F0 F) :
    Calls Try.prog 18 #[.agg #[.int .i64 vars, v]] w (RankPost (narB vars F0) F0 6 w) := by
  obtain ⟨a, cp, rfl, _, _⟩ := Ty.row_len hx
  have S0 := (Sp.start w).alloc_box #[.int .i64 vars, .slice a F0.length cp] 29
  replace S0 := Lib.hid S0
  have hxr := Lib.hid hx
  clear hx
  have hz0 : (narB vars F0 && inB 0 0 6) = narB vars F0 := by rw [show inB 0 0 6 = true from rfl, Bool.and_true]
  cases hq1 : narB vars F0
  · replace hz0 := hz0.trans hq1
    go_enter Try.func18, Try.ntmps18
    go_wp2_with fail
    refine (narrowOk_at (Ty.row_below hxr.out S0.out.below (Ty.row_lt hxr.out)) hz0).mono ?_
    rintro e w1 ⟨rfl, hb1⟩
    have S1 := Lib.hid (S0.out.grow hb1)
    go_wp2_with fail
    go_ret2
    exact ⟨_, _, rfl, ⟨fun _ => ⟨rfl, rfl⟩, fun h => (by cases h)⟩, S1.out.below⟩
  replace hz0 := hz0.trans hq1
  obtain ⟨hG, h60⟩ := nar_good hq1
  replace hG := Lib.hid hG
  go_enter Try.func18, Try.ntmps18
  go_wp2_with fail
  refine (narrowOk_at (Ty.row_below hxr.out S0.out.below (Ty.row_lt hxr.out)) hz0).mono ?_
  rintro e w1 ⟨rfl, hb1⟩
  have S1 := S0.out.grow hb1
  have c0 := S1.cell (i := 0) rfl (o := 0) rfl
  have c1 := S1.cell (i := 0) rfl (o := 1) rfl
  replace S1 := Lib.hid S1
  clear S0 hb1
  go_wp2_with fail
  refine (closureOf_any vars 6 _ F0 F _ (Ty.row_below hxr.out S1.out.below (Ty.row_lt hxr.out)) hG.out (by omega) (by omega) (by omega)).mono ?_
  rintro e w3 ⟨bx, mb, L, R, rfl, hXS, hC⟩
  have hB := btr S1.out.below hXS.below
  replace hXS := Lib.hid hXS
  replace hC := Lib.hid hC
  clear S1 c0 c1
  go_wp2_with fail
  refine (roundOf_any hXS.out _ [] [] (Ty.row_nil _ _ _ _ _ (by decide)) Good.nil).mono ?_
  rintro e w4 ⟨z, rfl, hz, rfl⟩
  have hR := round_is hC.out hG.out Good.nil hz
  have hB2 := bdr hB
  rcases hR with ⟨rfl, hn⟩ | ⟨k, rfl, hr⟩
  · have hA : Hid (RankAns true F0 6 0 false) := ⟨fun h => (by cases h), fun _ => .inr ⟨rfl, rfl, hn⟩⟩
    clear hn hz
    go_wp2_with fail
    go_ret2
    exact ⟨_, _, rfl, hA.out, hB2⟩
  · have hA : Hid (RankAns true F0 6 k true) := ⟨fun h => (by cases h), fun _ => .inl ⟨rfl, k, rfl, hr⟩⟩
    clear hr hz
    go_wp2_with fail
    go_ret2
    exact ⟨_, _, rfl, hA.out, hB2⟩

set_option maxRecDepth 100000 in
set_option maxHeartbeats 4000000 in
theorem implLeast_any (vars : Int) (v : Value) (F0 : List (List Int)) (F : List Nat) (w : World) (hx : (Ty.slice Ty.int).row false w v F0 F) :
    Calls Try.prog 20 #[.agg #[.int .i64 vars, v]] w (LeastPost (narB vars F0) F0 w) := by
  obtain ⟨a, cp, rfl, _, _⟩ := Ty.row_len hx
  have S0 := (Sp.start w).alloc_box #[.int .i64 vars, .slice a F0.length cp] 29
  replace S0 := Lib.hid S0
  have hxr := Lib.hid hx
  clear hx
  have hz0 : (narB vars F0 && inB 0 0 6) = narB vars F0 := by rw [show inB 0 0 6 = true from rfl, Bool.and_true]
  cases hq1 : narB vars F0
  · replace hz0 := hz0.trans hq1
    go_enter Try.func20, Try.ntmps20
    go_wp2_with fail
    refine (narrowOk_at (Ty.row_below hxr.out S0.out.below (Ty.row_lt hxr.out)) hz0).mono ?_
    rintro e w1 ⟨rfl, hb1⟩
    have S1 := Lib.hid (S0.out.grow hb1)
    go_wp2_with fail
    go_ret2
    exact ⟨_, _, rfl, ⟨fun _ => ⟨rfl, rfl⟩, fun h => (by cases h)⟩, S1.out.below⟩
  replace hz0 := hz0.trans hq1
  obtain ⟨hG, h60⟩ := nar_good hq1
  replace hG := Lib.hid hG
  go_enter Try.func20, Try.ntmps20
  go_wp2_with fail
  refine (narrowOk_at (Ty.row_below hxr.out S0.out.below (Ty.row_lt hxr.out)) hz0).mono ?_
  rintro e w1 ⟨rfl, hb1⟩
  have S1 := Lib.hid (S0.out.grow hb1)
  clear S0 hb1
  go_wp2_with fail
  go_loopw [4] (fun i wr => ∃ k : Nat, k ≤ 7 ∧ i = .int .i64 k ∧ Hid (noneTo F0 k) ∧ Hid (Sp w wr [Box w.heap.size 29 #[.int .i64 vars, .slice a F0.length cp]])) (fun i _ => 7 - (intOf i).toNat)
  case atStart => exact ⟨0, by omega, rfl, fun j h0 h1 => by omega, S1⟩
  case round =>
    obtain ⟨k, hk, rfl, HN, HS⟩ := hrel
    clear S1
    have c0 := HS.out.cell (i := 0) rfl (o := 0) rfl
    have c1 := HS.out.cell (i := 0) rfl (o := 1) rfl
    by_cases hlt : k ≤ 6
    · go_wp2_with fail
      refine (narrow_any vars k _ F0 F _ (Ty.row_below hxr.out HS.out.below (Ty.row_lt hxr.out)) hG.out (by omega) (by omega) (by omega)).mono ?_
      rintro e w3 ⟨q, rfl, hT, hb3⟩
      have S3 := Lib.hid (HS.out.grow hb3)
      clear HS hb3 c0 c1
      cases q
      · have HN2 := Lib.hid (noneTo_step HN.out (fun h => (by have := hT.2 h; cases this)))
        clear hT HN
        go_wp2_with fail
        go_roundw
        case rel => exact ⟨k + 1, by omega, by go_num, by have := HN2.out; exact this, S3⟩
        case measure => simp [intOf]; omega
      · have hA : Hid (LeastAns true F0 k true) := ⟨fun h => (by cases h), fun _ => .inl ⟨rfl, by omega, by omega, HN.out, hT.1 rfl⟩⟩
        clear hT HN
        go_wp2_with fail
        go_ret2
        exact ⟨_, _, rfl, hA.out, S3.out.below⟩
    · have hA : Hid (LeastAns true F0 0 false) := ⟨fun h => (by cases h), fun _ => .inr ⟨rfl, rfl, fun j h0 h1 => HN.out j h0 (by omega)⟩⟩
      clear HN
      go_wp2_with fail
      go_ret2
      exact ⟨_, _, rfl, hA.out, HS.out.below⟩
end Go.Proofs.Ytebpknekaljgnaa
