/- The walk of FnExactWidthProfile. Printed by law_profile.py. -/
import Derived.Test.YtebpknekaljgnaaNxA
import Derived.Test.YtebpknekaljgnaaCnfM
import Derived.Test.YtebpknekaljgnaaHTail
namespace Go.Proofs.Ytebpknekaljgnaa
open Go.RowKit

theorem sum_of_bulkP {xss : List (List Int)} {n : Nat} (h : bulk xss ≤ n) : (xss.map List.length).sum ≤ n := by unfold bulk at h; omega

set_option maxRecDepth 100000 in
set_option maxHeartbeats 8000000 in
theorem FnExactWidthProfile_walk (vars width : Int) (v : Value) (xss : List (List Int)) (F : List Nat) (w : World) (hx : (Ty.slice Ty.int).row false w v xss F) :
    Calls Try.prog 7 #[.agg #[.int .i64 vars, v], .int .i64 width] w fun e w' => e = .returned (.bool true) ∧ Below w.heap.size w w' := by
  obtain ⟨va, vc, rfl, _, _⟩ := Ty.row_len hx
  have S0 := (Sp.start w).alloc_box #[.int .i64 vars, .slice va xss.length vc] 24
  replace S0 := Lib.hid S0
  by_cases hbig2 : (1048576 : Int) < bulk xss
  · go_enter Try.func7, Try.ntmps7
    go_wp2_with fail
    refine (szCnf_any vars _ xss F _ _ (Ty.row_below hx S0.out.below (Ty.row_lt hx)) (by omega) (by omega)).mono ?_
    rw [szOf_no hbig2]
    rintro e w1 ⟨rfl, hb1⟩
    have S1 := S0.out.grow hb1
    have hB := S1.below
    clear S1
    go_wp2_with fail
    go_ret
    exact ⟨rfl, hB⟩
  have hbk : bulk xss ≤ 1048576 := by omega
  have hz : ¬ (1048576 : Int) - bulk xss < 0 := by omega
  obtain ⟨ok, hok⟩ : ∃ ok, (narB vars xss && inB width 0 6) = ok := ⟨_, rfl⟩
  replace hok := Lib.hid hok
  replace hx := Lib.hid hx
  go_enter Try.func7, Try.ntmps7
  go_wp2_with fail
  refine (szCnf_any vars _ xss F _ _ (Ty.row_below hx.out S0.out.below (Ty.row_lt hx.out)) (by omega) (by omega)).mono ?_
  rw [szOf_yes (by omega)]
  rintro e w1 ⟨rfl, hb1⟩
  have S2 := S0.out.grow hb1
  clear S0 hb1
  replace S2 := Lib.hid S2
  have c_arg_0 := S2.out.cell (i := 0) rfl (o := 0) rfl
  have c_arg_1 := S2.out.cell (i := 0) rfl (o := 1) rfl
  go_wp2_with fail
  refine (toCnf_any vars _ xss F _ (Ty.row_below hx.out S2.out.below (Ty.row_lt hx.out)) (by omega)).mono ?_
  rintro e w3 ⟨v3, F3, rfl, hr3, hn3, hF3, hb3⟩
  obtain ⟨a_r0, c_r0, rfl, _, _⟩ := Ty.row_len hr3
  have S4 := S2.out.row_new hb3 hr3 hn3 hF3
  clear c_arg_0 c_arg_1
  clear S2 hr3 hb3 hn3 hF3
  replace S4 := Lib.hid S4
  go_wp2_with fail
  obtain ⟨G5, g5⟩ := S4.out.row_at (i := 0) rfl
  refine (specProfile_any vars width _ xss G5 _ g5).mono ?_
  clear g5
  rw [hok.out]
  rintro e w6 ⟨v6, ys6, F6, rfl, hr6, hn6, hF6, hb6, hq6⟩
  have y_few := hq6.few
  replace hq6 := Lib.hid hq6
  obtain ⟨a_r, c_r, rfl, _, _⟩ := Ty.row_len hr6
  have S7 := S4.out.row_new hb6 hr6 hn6 hF6
  clear S4 hr6 hb6 hn6 hF6
  replace S7 := Lib.hid S7
  have c_arg_0 := S7.out.cell (i := 2) rfl (o := 0) rfl
  have c_arg_1 := S7.out.cell (i := 2) rfl (o := 1) rfl
  go_wp2_with fail
  refine (toCnf_any vars _ xss F _ (Ty.row_below hx.out S7.out.below (Ty.row_lt hx.out)) (by omega)).mono ?_
  rintro e w8 ⟨v8, F8, rfl, hr8, hn8, hF8, hb8⟩
  obtain ⟨a_x0, c_x0, rfl, _, _⟩ := Ty.row_len hr8
  have S9 := (S7.out.row_new hb8 hr8 hn8 hF8).alloc_box #[.int .i64 vars, .slice a_x0 xss.length c_x0] 29
  clear c_arg_0 c_arg_1
  clear S7 hr8 hb8 hn8 hF8
  replace S9 := Lib.hid S9
  go_wp2_with fail
  have c_bx_0 := S9.out.cell (i := 0) rfl (o := 0) rfl
  have c_bx_1 := S9.out.cell (i := 0) rfl (o := 1) rfl
  obtain ⟨G10, g10⟩ := S9.out.row_at (i := 1) rfl
  refine (implProfile_any vars width _ xss G10 _ g10).mono ?_
  clear g10
  rw [hok.out]
  rintro e w11 ⟨v11, ys11, F11, rfl, hr11, hn11, hF11, hb11, hq11⟩
  obtain rfl := hq6.out.one hq11
  clear hq11
  obtain ⟨a_g, c_g, rfl, _, _⟩ := Ty.row_len hr11
  have S12 := S9.out.row_new hb11 hr11 hn11 hF11
  clear c_bx_0 c_bx_1
  clear S9 hr11 hb11 hn11 hF11
  replace S12 := Lib.hid S12
  go_wp2_with fail
  obtain ⟨G13, g13⟩ := S12.out.row_at (i := 0) rfl
  obtain ⟨G14, g14⟩ := S12.out.row_at (i := 3) rfl
  refine (eqIntS_any _ _ ys6 ys6 G13 G14 _ g13 g14).mono ?_
  clear g13 g14
  rw [decide_eq_true (rfl : ys6 = ys6)]
  rintro e w15 ⟨rfl, hb15⟩
  have S16 := S12.out.grow hb15
  clear S12 hb15
  replace S16 := Lib.hid S16
  have c_bx_0 := S16.out.cell (i := 1) rfl (o := 0) rfl
  have c_bx_1 := S16.out.cell (i := 1) rfl (o := 1) rfl
  have c_arg_0 := S16.out.cell (i := 5) rfl (o := 0) rfl
  have c_arg_1 := S16.out.cell (i := 5) rfl (o := 1) rfl
  go_wp2_with fail
  clear c_bx_0 c_bx_1 c_arg_0 c_arg_1
  have c_bx_0 := S16.out.cell (i := 1) rfl (o := 0) rfl
  have c_bx_1 := S16.out.cell (i := 1) rfl (o := 1) rfl
  have c_arg_0 := S16.out.cell (i := 5) rfl (o := 0) rfl
  have c_arg_1 := S16.out.cell (i := 5) rfl (o := 1) rfl
  refine wp_region_tail_lit (S := (fun w' => w'.cell? ⟨w8.heap.size, 0, none⟩ = some (.int .i64 vars) ∧ w'.cell? ⟨w8.heap.size, 1, none⟩ = some (.slice a_x0 xss.length c_x0) ∧ w'.cell? ⟨w.heap.size, 0, none⟩ = some (.int .i64 vars) ∧ w'.cell? ⟨w.heap.size, 1, none⟩ = some (.slice va xss.length vc))) 3 [false, false, false, false, false] (by kernel_rfl) (by kernel_rfl) (by kernel_rfl) ?_ ?_
  · exact ⟨c_bx_0, c_bx_1, c_arg_0, c_arg_1⟩
  intro hS
  (refine walkT_take (i := 0) (v := ?_) rfl (by kernel_rfl) (by decide) (by kernel_rfl) (by kernel_rfl) (fun _ _ _ h => h) (Or.inl ⟨by rfl, ?_⟩) (by assumption) ?_; rotate_left; (focus (intro w hSw; (try dsimp only at hSw); go_simp; (try with_reducible rfl); done)); (try simp only [put_rules]))
  (refine walkT_take (i := 1) (v := ?_) rfl (by kernel_rfl) (by decide) (by kernel_rfl) (by kernel_rfl) (fun _ _ _ h => h) (Or.inl ⟨by rfl, ?_⟩) (by assumption) ?_; rotate_left; (focus (intro w hSw; (try dsimp only at hSw); go_simp; (try with_reducible rfl); done)); (try simp only [put_rules]))
  (refine walkT_ready (rs := [2]) (by kernel_rfl) (by simp) (by decide) ?_; refine AllT.cons rfl (fun K hK => ?_) AllT.nil)
  go_simp
  go_at_call 10
  have S17 := Sp.drew S16.out
  clear c_bx_0 c_bx_1 c_arg_0 c_arg_1
  clear S16 
  replace S17 := Lib.hid S17
  refine (toCnf_any vars _ xss F _ (Ty.row_below hx.out S17.out.below (Ty.row_lt hx.out)) (by omega)).mono ?_
  rintro e w18 ⟨v18, F18, rfl, hr18, hn18, hF18, hb18⟩
  obtain ⟨a_y0, c_y0, rfl, _, _⟩ := Ty.row_len hr18
  have S19 := S17.out.row_new hb18 hr18 hn18 hF18
  clear S17 hr18 hb18 hn18 hF18
  replace S19 := Lib.hid S19
  go_wp2_with fail
  have c_bx_0 := S19.out.cell (i := 2) rfl (o := 0) rfl
  have c_bx_1 := S19.out.cell (i := 2) rfl (o := 1) rfl
  have c_arg_0 := S19.out.cell (i := 6) rfl (o := 0) rfl
  have c_arg_1 := S19.out.cell (i := 6) rfl (o := 1) rfl
  refine hK.out _ _ ?_ (fun hS2 => ?_)
  · exact ⟨c_bx_0, c_bx_1, c_arg_0, c_arg_1⟩
  clear hK hS hS2
  (try simp only [put_rules])
  (refine walkT_done (by kernel_rfl) ?_)
  simp only [List.drop_succ_cons, List.drop_zero]
  go_wp2_with fail
  obtain ⟨G20, g20⟩ := S19.out.row_at (i := 3) rfl
  obtain ⟨G21, g21⟩ := S19.out.row_at (i := 0) rfl
  refine (eqCnf_same vars _ _ xss G20 G21 _ g20 g21).mono ?_
  clear g20 g21
  rintro e w22 ⟨rfl, hb22⟩
  have S23 := S19.out.grow hb22
  clear c_bx_0 c_bx_1 c_arg_0 c_arg_1
  clear S19 hb22
  replace S23 := Lib.hid S23
  have s1 : (1 : Int) + (xss.map List.length).sum ≤ 100000000000000000 := by have := sum_of_bulkP hbk; omega
  have s2 : ¬ (1 : Int) + (xss.map List.length).sum < 0 := by omega
  have s3 : ¬ (1 : Int) + (ys6.length : Int) < 0 := by omega
  have c_bx_0 := S23.out.cell (i := 2) rfl (o := 0) rfl
  have c_bx_1 := S23.out.cell (i := 2) rfl (o := 1) rfl
  go_wp2_with fail
  obtain ⟨F24, hr24, hn24, hall24⟩ := S23.out.mark (i := 3) rfl
  refine (markCnf_any vars _ 1 xss F24 _ hr24 hn24 (by decide) s1).mono ?_
  rintro e w24 ⟨rfl, hq24, hc24⟩
  have S25 := hall24 _ _ hq24 hc24
  clear c_bx_0 c_bx_1
  clear S23 hr24 hn24 hall24 hq24 hc24
  replace S25 := Lib.hid S25
  go_wp2_with fail
  obtain ⟨G26, g26⟩ := S25.out.row_at (i := 1) rfl
  obtain ⟨G27, g27⟩ := S25.out.row_at (i := 4) rfl
  refine (eqIntS_any _ _ ys6 ys6 G26 G27 _ g26 g27).mono ?_
  clear g26 g27
  rw [decide_eq_true (rfl : ys6 = ys6)]
  rintro e w28 ⟨rfl, hb28⟩
  have S29 := S25.out.grow hb28
  clear S25 hb28
  replace S29 := Lib.hid S29
  go_wp2_with fail
  obtain ⟨F30, hr30, hn30, hall30⟩ := S29.out.mark (i := 1) rfl
  refine (markIntS_any _ 1 ys6 F30 _ hr30 (by decide) (by omega)).mono ?_
  rintro e w30 ⟨rfl, hq30, hc30⟩
  have S31 := hall30 _ _ hq30 hc30
  clear S29 hr30 hn30 hall30 hq30 hc30
  replace S31 := Lib.hid S31
  go_wp2_with fail
  obtain ⟨G32, g32⟩ := S31.out.row_at (i := 1) rfl
  refine (heldIntS_any _ 1 (marks 1 ys6.length) G32 _ g32 (by decide) (by rw [marks_length]; omega)).mono ?_
  clear g32
  rw [show heldOf (marks 1 ys6.length) 1 = 1 + (ys6.length : Int) by unfold heldOf; rw [marks_length, if_pos rfl]]
  rintro e w33 ⟨rfl, rfl⟩
  have c_arg_0 := S31.out.cell (i := 6) rfl (o := 0) rfl
  have c_arg_1 := S31.out.cell (i := 6) rfl (o := 1) rfl
  go_wp2_with fail
  refine (toCnf_any vars _ xss F _ (Ty.row_below hx.out S31.out.below (Ty.row_lt hx.out)) (by omega)).mono ?_
  rintro e w34 ⟨v34, F34, rfl, hr34, hn34, hF34, hb34⟩
  obtain ⟨a_h0, c_h0, rfl, _, _⟩ := Ty.row_len hr34
  have S35 := S31.out.row_new hb34 hr34 hn34 hF34
  clear c_arg_0 c_arg_1
  clear S31 hr34 hb34 hn34 hF34
  replace S35 := Lib.hid S35
  go_wp2_with fail
  obtain ⟨G36, g36⟩ := S35.out.row_at (i := 0) rfl
  refine (implProfile_any vars width _ xss G36 _ g36).mono ?_
  clear g36
  rw [hok.out]
  rintro e w37 ⟨v37, ys37, F37, rfl, hr37, hn37, hF37, hb37, hq37⟩
  obtain rfl := hq6.out.one hq37
  clear hq37
  obtain ⟨a_h, c_h, rfl, _, _⟩ := Ty.row_len hr37
  have S38 := S35.out.row_new hb37 hr37 hn37 hF37
  clear S35 hr37 hb37 hn37 hF37
  replace S38 := Lib.hid S38
  go_wp2_with fail
  obtain ⟨G39, g39⟩ := S38.out.row_at (i := 0) rfl
  obtain ⟨G40, g40⟩ := S38.out.row_at (i := 6) rfl
  refine (eqIntS_any _ _ ys6 ys6 G39 G40 _ g39 g40).mono ?_
  clear g39 g40
  rw [decide_eq_true (rfl : ys6 = ys6)]
  rintro e w41 ⟨rfl, hb41⟩
  have S42 := S38.out.grow hb41
  clear S38 hb41
  replace S42 := Lib.hid S42
  go_wp2_with fail
  obtain ⟨G43, g43⟩ := S42.out.row_at (i := 3) rfl
  refine (heldIntS_any _ 1 (marks 1 ys6.length) G43 _ g43 (by decide) (by rw [marks_length]; omega)).mono ?_
  clear g43
  rw [show heldOf (marks 1 ys6.length) 1 = 1 + (ys6.length : Int) by unfold heldOf; rw [marks_length, if_pos rfl]]
  rintro e w44 ⟨rfl, rfl⟩
  have hB := S42.out.below
  go_wp2_with fail
  go_ret
  exact ⟨rfl, hB⟩
end Go.Proofs.Ytebpknekaljgnaa
