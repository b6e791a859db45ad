/- The walk of FnExactRemoveEdge. Printed by law_RemoveEdge.py. -/
import Derived.Test.YtebhkfhdjdgokaaChR
namespace Go.Proofs.Ytebhkfhdjdgokaa
open Go.RowKit

set_option maxRecDepth 100000 in
set_option maxHeartbeats 8000000 in
theorem FnExactRemoveEdge_walk (V k value : Int) (v u : Value) (es : List (Int × Int)) (cs : List Int) (F G : List Nat) (w : World) (hx : tmTy.row false w v es F) (hy : Ty.int.row false w u cs G) :
    Calls Try.prog 5 #[.agg #[.int .i64 V, v, u], .int .i64 k, .int .i64 value] w fun e w' => e = .returned (.bool true) ∧ Below w.heap.size w w' := by
  obtain ⟨va, vc, rfl, _, _⟩ := Ty.row_len hx
  obtain ⟨ua, uc, rfl, _, _⟩ := Ty.row_len hy
  have S0 := (Sp.start w).alloc_box #[.int .i64 V, .slice va es.length vc, .slice ua cs.length uc] 33
  replace S0 := Lib.hid S0
  by_cases hbig : (1048576 : Int) < ((es.length + cs.length : Nat) : Int)
  · go_enter Try.func5, Try.ntmps5
    go_wp2_with fail
    refine (szCharged_any V _ _ es cs F G _ _ (Ty.row_below hx S0.out.below (Ty.row_lt hx)) (Ty.row_below hy S0.out.below (Ty.row_lt hy)) (by omega) (by omega)).mono ?_
    rw [szTwo_no hbig]
    rintro e w1 ⟨rfl, hb1⟩
    have S1 := S0.out.grow hb1
    have hB := S1.below
    clear S1
    go_wp2_with fail
    go_ret
    exact ⟨rfl, hB⟩
  have hz : ¬ (1048576 : Int) - ((es.length + cs.length : Nat) : Int) < 0 := by omega
  obtain ⟨rv, rs, rc, rok, hres⟩ : ∃ rv rs rc rok, removeB V es cs k value = (rv, rs, rc, rok) := ⟨_, _, _, _, rfl⟩
  have hlen := remove_len V es cs k value
  rw [hres] at hlen
  obtain ⟨hlen1, hlen2⟩ := hlen
  simp only at hlen1 hlen2
  replace hres := Lib.hid hres
  replace hx := Lib.hid hx
  replace hy := Lib.hid hy
  have s1 : (1 : Int) + 2 * es.length + cs.length ≤ 1000000000000000000 := by omega
  have s2 : (1 : Int) + 2 * rs.length + rc.length ≤ 1000000000000000000 := by omega
  have s3 : ¬ (1 : Int) + 2 * es.length + cs.length < 0 := by omega
  have s4 : ¬ (1 : Int) + 2 * rs.length + rc.length < 0 := by omega
  go_enter Try.func5, Try.ntmps5
  go_wp2_with fail
  refine (szCharged_any V _ _ es cs F G _ _ (Ty.row_below hx.out S0.out.below (Ty.row_lt hx.out)) (Ty.row_below hy.out S0.out.below (Ty.row_lt hy.out)) (by omega) (by omega)).mono ?_
  rw [szTwo_yes (by omega)]
  rintro e w1 ⟨rfl, hb1⟩
  have S2 := S0.out.grow hb1
  clear S0 hb1
  replace S2 := Lib.hid S2
  have c_arg_0 := S2.out.cell (i := 0) rfl (o := 0) rfl
  have c_arg_1 := S2.out.cell (i := 0) rfl (o := 1) rfl
  have c_arg_2 := S2.out.cell (i := 0) rfl (o := 2) rfl
  go_wp2_with fail
  refine (toCharged_any V _ _ es cs F G _ (Ty.row_below hx.out S2.out.below (Ty.row_lt hx.out)) (Ty.row_below hy.out S2.out.below (Ty.row_lt hy.out)) (by omega) (by omega)).mono ?_
  rintro e w3 ⟨v3, u3, rfl, T3⟩
  obtain ⟨_, tr3⟩ := T3.row_at (i := 0) rfl
  obtain ⟨_, ti3⟩ := T3.row_at (i := 1) rfl
  obtain ⟨a_r0, c_r0, rfl, _, _⟩ := Ty.row_len tr3
  obtain ⟨b_r0, d_r0, rfl, _, _⟩ := Ty.row_len ti3
  clear tr3 ti3
  have S4 := S2.out.seq T3
  clear c_arg_0 c_arg_1 c_arg_2
  clear S2 T3
  replace S4 := Lib.hid S4
  go_wp2_with fail
  obtain ⟨G5, g5⟩ := S4.out.row_at (i := 0) rfl
  obtain ⟨G6, g6⟩ := S4.out.row_at (i := 1) rfl
  refine (specRemoveEdge_any V k value _ _ es cs G5 G6 _ g5 g6).mono ?_
  clear g5 g6
  rw [hres.out]
  rintro e w7 ⟨v7, u7, rfl, T7⟩
  replace T7 := (show Sp _ _ [Row tmTy _ rs, Row Ty.int _ rc] from T7)
  obtain ⟨_, tr7⟩ := T7.row_at (i := 0) rfl
  obtain ⟨_, ti7⟩ := T7.row_at (i := 1) rfl
  obtain ⟨a_r, c_r, rfl, _, _⟩ := Ty.row_len tr7
  obtain ⟨b_r, d_r, rfl, _, _⟩ := Ty.row_len ti7
  clear tr7 ti7
  have S8 := (S4.out.seq T7).alloc_box #[.int .i64 rv, .slice a_r rs.length c_r, .slice b_r rc.length d_r] 35
  clear S4 T7
  replace S8 := Lib.hid S8
  have c_arg_0 := S8.out.cell (i := 5) rfl (o := 0) rfl
  have c_arg_1 := S8.out.cell (i := 5) rfl (o := 1) rfl
  have c_arg_2 := S8.out.cell (i := 5) rfl (o := 2) rfl
  go_wp2_with fail
  refine (toCharged_any V _ _ es cs F G _ (Ty.row_below hx.out S8.out.below (Ty.row_lt hx.out)) (Ty.row_below hy.out S8.out.below (Ty.row_lt hy.out)) (by omega) (by omega)).mono ?_
  rintro e w9 ⟨v9, u9, rfl, T9⟩
  obtain ⟨_, tr9⟩ := T9.row_at (i := 0) rfl
  obtain ⟨_, ti9⟩ := T9.row_at (i := 1) rfl
  obtain ⟨a_x0, c_x0, rfl, _, _⟩ := Ty.row_len tr9
  obtain ⟨b_x0, d_x0, rfl, _, _⟩ := Ty.row_len ti9
  clear tr9 ti9
  have S10 := (S8.out.seq T9).alloc_box #[.int .i64 V, .slice a_x0 es.length c_x0, .slice b_x0 cs.length d_x0] 35
  clear c_arg_0 c_arg_1 c_arg_2
  clear S8 T9
  replace S10 := Lib.hid S10
  have c_bx_0 := S10.out.cell (i := 0) rfl (o := 0) rfl
  have c_bx_1 := S10.out.cell (i := 0) rfl (o := 1) rfl
  have c_bx_2 := S10.out.cell (i := 0) rfl (o := 2) rfl
  go_wp2_with fail
  obtain ⟨G11, g11⟩ := S10.out.row_at (i := 1) rfl
  obtain ⟨G12, g12⟩ := S10.out.row_at (i := 2) rfl
  refine (implRemoveEdge_any V k value _ _ es cs G11 G12 _ g11 g12).mono ?_
  clear g11 g12
  rw [hres.out]
  rintro e w13 ⟨v13, u13, rfl, T13⟩
  replace T13 := (show Sp _ _ [Row tmTy _ rs, Row Ty.int _ rc] from T13)
  obtain ⟨_, tr13⟩ := T13.row_at (i := 0) rfl
  obtain ⟨_, ti13⟩ := T13.row_at (i := 1) rfl
  obtain ⟨a_g, c_g, rfl, _, _⟩ := Ty.row_len tr13
  obtain ⟨b_g, d_g, rfl, _, _⟩ := Ty.row_len ti13
  clear tr13 ti13
  have S14 := (S10.out.seq T13).alloc_box #[.int .i64 rv, .slice a_g rs.length c_g, .slice b_g rc.length d_g] 35
  clear c_bx_0 c_bx_1 c_bx_2
  clear S10 T13
  replace S14 := Lib.hid S14
  have c_bg_0 := S14.out.cell (i := 0) rfl (o := 0) rfl
  have c_bg_1 := S14.out.cell (i := 0) rfl (o := 1) rfl
  have c_bg_2 := S14.out.cell (i := 0) rfl (o := 2) rfl
  have c_bw_0 := S14.out.cell (i := 6) rfl (o := 0) rfl
  have c_bw_1 := S14.out.cell (i := 6) rfl (o := 1) rfl
  have c_bw_2 := S14.out.cell (i := 6) rfl (o := 2) rfl
  go_wp2_with fail
  obtain ⟨G15, g15⟩ := S14.out.row_at (i := 1) rfl
  obtain ⟨G16, g16⟩ := S14.out.row_at (i := 2) rfl
  obtain ⟨G17, g17⟩ := S14.out.row_at (i := 7) rfl
  obtain ⟨G18, g18⟩ := S14.out.row_at (i := 8) rfl
  refine (eqCharged_same rv _ _ _ _ rs rc G15 G16 G17 G18 _ g15 g16 g17 g18).mono ?_
  clear g15 g16 g17 g18
  rintro e w19 ⟨rfl, hb19⟩
  have S20 := S14.out.grow hb19
  clear c_bg_0 c_bg_1 c_bg_2 c_bw_0 c_bw_1 c_bw_2
  clear S14 hb19
  replace S20 := Lib.hid S20
  have c_bx_0 := S20.out.cell (i := 3) rfl (o := 0) rfl
  have c_bx_1 := S20.out.cell (i := 3) rfl (o := 1) rfl
  have c_bx_2 := S20.out.cell (i := 3) rfl (o := 2) rfl
  have c_arg_0 := S20.out.cell (i := 11) rfl (o := 0) rfl
  have c_arg_1 := S20.out.cell (i := 11) rfl (o := 1) rfl
  have c_arg_2 := S20.out.cell (i := 11) rfl (o := 2) rfl
  go_wp2_with fail
  clear c_bx_0 c_bx_1 c_bx_2 c_arg_0 c_arg_1 c_arg_2
  have c_bx_0 := S20.out.cell (i := 3) rfl (o := 0) rfl
  have c_bx_1 := S20.out.cell (i := 3) rfl (o := 1) rfl
  have c_bx_2 := S20.out.cell (i := 3) rfl (o := 2) rfl
  have c_arg_0 := S20.out.cell (i := 11) rfl (o := 0) rfl
  have c_arg_1 := S20.out.cell (i := 11) rfl (o := 1) rfl
  have c_arg_2 := S20.out.cell (i := 11) rfl (o := 2) rfl
  refine wp_region_tail_lit (S := (fun w' => w'.cell? ⟨w9.heap.size, 0, none⟩ = some (.int .i64 V) ∧ w'.cell? ⟨w9.heap.size, 1, none⟩ = some (.slice a_x0 es.length c_x0) ∧ w'.cell? ⟨w9.heap.size, 2, none⟩ = some (.slice b_x0 cs.length d_x0) ∧ w'.cell? ⟨w.heap.size, 0, none⟩ = some (.int .i64 V) ∧ w'.cell? ⟨w.heap.size, 1, none⟩ = some (.slice va es.length vc) ∧ w'.cell? ⟨w.heap.size, 2, none⟩ = some (.slice ua cs.length uc))) 3 [false, false, false, false, false] (by kernel_rfl) (by kernel_rfl) (by kernel_rfl) ?_ ?_
  · exact ⟨c_bx_0, c_bx_1, c_bx_2, c_arg_0, c_arg_1, c_arg_2⟩
  intro hS
  (refine walkT_take (i := 0) (v := ?_) rfl (by kernel_rfl) (by decide) (by kernel_rfl) (by kernel_rfl) (fun _ _ _ h => h) (Or.inl ⟨by rfl, ?_⟩) (by assumption) ?_; rotate_left; (focus (intro w hSw; (try dsimp only at hSw); go_simp; (try with_reducible rfl); done)); (try simp only [put_rules]))
  (refine walkT_take (i := 1) (v := ?_) rfl (by kernel_rfl) (by decide) (by kernel_rfl) (by kernel_rfl) (fun _ _ _ h => h) (Or.inl ⟨by rfl, ?_⟩) (by assumption) ?_; rotate_left; (focus (intro w hSw; (try dsimp only at hSw); go_simp; (try with_reducible rfl); done)); (try simp only [put_rules]))
  (refine walkT_ready (rs := [2]) (by kernel_rfl) (by simp) (by decide) ?_; refine AllT.cons rfl (fun K hK => ?_) AllT.nil)
  go_simp
  go_at_call 14
  have S21 := Sp.drew S20.out
  clear c_bx_0 c_bx_1 c_bx_2 c_arg_0 c_arg_1 c_arg_2
  clear S20 
  replace S21 := Lib.hid S21
  refine (toCharged_any V _ _ es cs F G _ (Ty.row_below hx.out S21.out.below (Ty.row_lt hx.out)) (Ty.row_below hy.out S21.out.below (Ty.row_lt hy.out)) (by omega) (by omega)).mono ?_
  rintro e w22 ⟨v22, u22, rfl, T22⟩
  obtain ⟨_, tr22⟩ := T22.row_at (i := 0) rfl
  obtain ⟨_, ti22⟩ := T22.row_at (i := 1) rfl
  obtain ⟨a_y0, c_y0, rfl, _, _⟩ := Ty.row_len tr22
  obtain ⟨b_y0, d_y0, rfl, _, _⟩ := Ty.row_len ti22
  clear tr22 ti22
  have S23 := S21.out.seq T22
  clear S21 T22
  replace S23 := Lib.hid S23
  go_wp2_with fail
  have c_bx_0 := S23.out.cell (i := 5) rfl (o := 0) rfl
  have c_bx_1 := S23.out.cell (i := 5) rfl (o := 1) rfl
  have c_bx_2 := S23.out.cell (i := 5) rfl (o := 2) rfl
  have c_arg_0 := S23.out.cell (i := 13) rfl (o := 0) rfl
  have c_arg_1 := S23.out.cell (i := 13) rfl (o := 1) rfl
  have c_arg_2 := S23.out.cell (i := 13) rfl (o := 2) rfl
  refine hK.out _ _ ?_ (fun hS2 => ?_)
  · exact ⟨c_bx_0, c_bx_1, c_bx_2, c_arg_0, c_arg_1, c_arg_2⟩
  clear hK hS hS2
  (try simp only [put_rules])
  (refine walkT_done (by kernel_rfl) ?_)
  simp only [List.drop_succ_cons, List.drop_zero]
  go_wp2_with fail
  obtain ⟨G24, g24⟩ := S23.out.row_at (i := 6) rfl
  obtain ⟨G25, g25⟩ := S23.out.row_at (i := 7) rfl
  obtain ⟨G26, g26⟩ := S23.out.row_at (i := 0) rfl
  obtain ⟨G27, g27⟩ := S23.out.row_at (i := 1) rfl
  refine (eqCharged_same V _ _ _ _ es cs G24 G25 G26 G27 _ g24 g25 g26 g27).mono ?_
  clear g24 g25 g26 g27
  rintro e w28 ⟨rfl, hb28⟩
  have S29 := S23.out.grow hb28
  clear c_bx_0 c_bx_1 c_bx_2 c_arg_0 c_arg_1 c_arg_2
  clear S23 hb28
  replace S29 := Lib.hid S29
  have c_bx_0 := S29.out.cell (i := 5) rfl (o := 0) rfl
  have c_bx_1 := S29.out.cell (i := 5) rfl (o := 1) rfl
  have c_bx_2 := S29.out.cell (i := 5) rfl (o := 2) rfl
  go_wp2_with fail
  refine (markCharged_any (i := 6) (j := 7) V _ _ 1 es cs _ S29.out rfl rfl (by decide) (by decide) s1).mono ?_
  rintro e w30 ⟨rfl, T30⟩
  have S31 := Lib.hid T30
  clear c_bx_0 c_bx_1 c_bx_2
  clear S29 T30
  have c_bg_0 := S31.out.cell (i := 2) rfl (o := 0) rfl
  have c_bg_1 := S31.out.cell (i := 2) rfl (o := 1) rfl
  have c_bg_2 := S31.out.cell (i := 2) rfl (o := 2) rfl
  have c_bw_0 := S31.out.cell (i := 8) rfl (o := 0) rfl
  have c_bw_1 := S31.out.cell (i := 8) rfl (o := 1) rfl
  have c_bw_2 := S31.out.cell (i := 8) rfl (o := 2) rfl
  go_wp2_with fail
  obtain ⟨G32, g32⟩ := S31.out.row_at (i := 3) rfl
  obtain ⟨G33, g33⟩ := S31.out.row_at (i := 4) rfl
  obtain ⟨G34, g34⟩ := S31.out.row_at (i := 9) rfl
  obtain ⟨G35, g35⟩ := S31.out.row_at (i := 10) rfl
  refine (eqCharged_same rv _ _ _ _ rs rc G32 G33 G34 G35 _ g32 g33 g34 g35).mono ?_
  clear g32 g33 g34 g35
  rintro e w36 ⟨rfl, hb36⟩
  have S37 := S31.out.grow hb36
  clear c_bg_0 c_bg_1 c_bg_2 c_bw_0 c_bw_1 c_bw_2
  clear S31 hb36
  replace S37 := Lib.hid S37
  have c_bg_0 := S37.out.cell (i := 2) rfl (o := 0) rfl
  have c_bg_1 := S37.out.cell (i := 2) rfl (o := 1) rfl
  have c_bg_2 := S37.out.cell (i := 2) rfl (o := 2) rfl
  go_wp2_with fail
  refine (markCharged_any (i := 3) (j := 4) rv _ _ 1 rs rc _ S37.out rfl rfl (by decide) (by decide) s2).mono ?_
  rintro e w38 ⟨rfl, T38⟩
  have S39 := Lib.hid T38
  clear c_bg_0 c_bg_1 c_bg_2
  clear S37 T38
  have c_bg_0 := S39.out.cell (i := 2) rfl (o := 0) rfl
  have c_bg_1 := S39.out.cell (i := 2) rfl (o := 1) rfl
  have c_bg_2 := S39.out.cell (i := 2) rfl (o := 2) rfl
  go_wp2_with fail
  obtain ⟨G40, g40⟩ := S39.out.row_at (i := 3) rfl
  obtain ⟨G41, g41⟩ := S39.out.row_at (i := 4) rfl
  refine (heldCharged_same rv _ _ 1 rs.length rc.length G40 G41 _ g40 g41 (by decide) s2).mono ?_
  clear g40 g41
  rintro e w42 ⟨rfl, hb42⟩
  have S43 := S39.out.grow hb42
  clear c_bg_0 c_bg_1 c_bg_2
  clear S39 hb42
  replace S43 := Lib.hid S43
  have c_arg_0 := S43.out.cell (i := 13) rfl (o := 0) rfl
  have c_arg_1 := S43.out.cell (i := 13) rfl (o := 1) rfl
  have c_arg_2 := S43.out.cell (i := 13) rfl (o := 2) rfl
  go_wp2_with fail
  refine (toCharged_any V _ _ es cs F G _ (Ty.row_below hx.out S43.out.below (Ty.row_lt hx.out)) (Ty.row_below hy.out S43.out.below (Ty.row_lt hy.out)) (by omega) (by omega)).mono ?_
  rintro e w44 ⟨v44, u44, rfl, T44⟩
  obtain ⟨_, tr44⟩ := T44.row_at (i := 0) rfl
  obtain ⟨_, ti44⟩ := T44.row_at (i := 1) rfl
  obtain ⟨a_h0, c_h0, rfl, _, _⟩ := Ty.row_len tr44
  obtain ⟨b_h0, d_h0, rfl, _, _⟩ := Ty.row_len ti44
  clear tr44 ti44
  have S45 := S43.out.seq T44
  clear c_arg_0 c_arg_1 c_arg_2
  clear S43 T44
  replace S45 := Lib.hid S45
  go_wp2_with fail
  obtain ⟨G46, g46⟩ := S45.out.row_at (i := 0) rfl
  obtain ⟨G47, g47⟩ := S45.out.row_at (i := 1) rfl
  refine (implRemoveEdge_any V k value _ _ es cs G46 G47 _ g46 g47).mono ?_
  clear g46 g47
  rw [hres.out]
  rintro e w48 ⟨v48, u48, rfl, T48⟩
  replace T48 := (show Sp _ _ [Row tmTy _ rs, Row Ty.int _ rc] from T48)
  obtain ⟨_, tr48⟩ := T48.row_at (i := 0) rfl
  obtain ⟨_, ti48⟩ := T48.row_at (i := 1) rfl
  obtain ⟨a_h, c_h, rfl, _, _⟩ := Ty.row_len tr48
  obtain ⟨b_h, d_h, rfl, _, _⟩ := Ty.row_len ti48
  clear tr48 ti48
  have S49 := (S45.out.seq T48).alloc_box #[.int .i64 rv, .slice a_h rs.length c_h, .slice b_h rc.length d_h] 35
  clear S45 T48
  replace S49 := Lib.hid S49
  have c_bh_0 := S49.out.cell (i := 0) rfl (o := 0) rfl
  have c_bh_1 := S49.out.cell (i := 0) rfl (o := 1) rfl
  have c_bh_2 := S49.out.cell (i := 0) rfl (o := 2) rfl
  have c_bw_0 := S49.out.cell (i := 13) rfl (o := 0) rfl
  have c_bw_1 := S49.out.cell (i := 13) rfl (o := 1) rfl
  have c_bw_2 := S49.out.cell (i := 13) rfl (o := 2) rfl
  go_wp2_with fail
  obtain ⟨G50, g50⟩ := S49.out.row_at (i := 1) rfl
  obtain ⟨G51, g51⟩ := S49.out.row_at (i := 2) rfl
  obtain ⟨G52, g52⟩ := S49.out.row_at (i := 14) rfl
  obtain ⟨G53, g53⟩ := S49.out.row_at (i := 15) rfl
  refine (eqCharged_same rv _ _ _ _ rs rc G50 G51 G52 G53 _ g50 g51 g52 g53).mono ?_
  clear g50 g51 g52 g53
  rintro e w54 ⟨rfl, hb54⟩
  have S55 := S49.out.grow hb54
  clear c_bh_0 c_bh_1 c_bh_2 c_bw_0 c_bw_1 c_bw_2
  clear S49 hb54
  replace S55 := Lib.hid S55
  have c_bg_0 := S55.out.cell (i := 7) rfl (o := 0) rfl
  have c_bg_1 := S55.out.cell (i := 7) rfl (o := 1) rfl
  have c_bg_2 := S55.out.cell (i := 7) rfl (o := 2) rfl
  go_wp2_with fail
  obtain ⟨G56, g56⟩ := S55.out.row_at (i := 8) rfl
  obtain ⟨G57, g57⟩ := S55.out.row_at (i := 9) rfl
  refine (heldCharged_same rv _ _ 1 rs.length rc.length G56 G57 _ g56 g57 (by decide) s2).mono ?_
  clear g56 g57
  rintro e w58 ⟨rfl, hb58⟩
  have S59 := S55.out.grow hb58
  clear c_bg_0 c_bg_1 c_bg_2
  clear S55 hb58
  replace S59 := Lib.hid S59
  have hB := S59.out.below
  go_wp2_with fail
  go_ret
  exact ⟨rfl, hB⟩
end Go.Proofs.Ytebhkfhdjdgokaa
