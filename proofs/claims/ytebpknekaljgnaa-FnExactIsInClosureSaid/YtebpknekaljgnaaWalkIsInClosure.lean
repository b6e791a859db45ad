/- The walk of FnExactIsInClosure. Printed by law_closure.py. -/
import Derived.Test.YtebpknekaljgnaaNwX
import Derived.Test.YtebpknekaljgnaaCnfM
import Derived.Test.YtebpknekaljgnaaHTail
namespace Go.Proofs.Ytebpknekaljgnaa
open Go.RowKit

set_option maxRecDepth 100000 in
set_option maxHeartbeats 8000000 in
theorem FnExactIsInClosure_walk (vars width : Int) (v u : Value) (xss : List (List Int)) (cl : List Int) (F G : List Nat) (w : World) (hx : (Ty.slice Ty.int).row false w v xss F) (hy : Ty.int.row false w u cl G) :
    Calls Try.prog 3 #[.agg #[.int .i64 vars, v], .int .i64 width, u] w fun e w' => e = .returned (.bool true) ∧ Below w.heap.size w w' := by
  obtain ⟨va, vc, rfl, _, _⟩ := Ty.row_len hx
  obtain ⟨ua, uc, rfl, hu1, hu2⟩ := Ty.row_len hy
  have S0 := (Sp.start w).alloc_box #[.int .i64 vars, .slice va xss.length vc] 24
  replace S0 := Lib.hid S0
  by_cases hbig : (1048576 : Int) < cl.length
  · go_enter Try.func3, Try.ntmps3
    go_wp2_with fail
    go_ret
    exact ⟨rfl, S0.out.below⟩
  have hle : (cl.length : Int) ≤ 1048576 := by omega
  by_cases hbig2 : (1048576 : Int) < bulk xss
  · go_enter Try.func3, Try.ntmps3
    go_wp2_with fail
    refine (szCnf_any vars _ xss F _ _ (Ty.row_below hx S0.out.below (Ty.row_lt hx)) (by omega) (by omega)).mono ?_
    rw [szOf_no hbig2]
    rintro e w1 ⟨rfl, hb1⟩
    have S1 := S0.out.grow hb1
    have hB := S1.below
    clear S1
    go_wp2_with fail
    go_ret
    exact ⟨rfl, hB⟩
  have hbk : bulk xss ≤ 1048576 := by omega
  have hz : ¬ (1048576 : Int) - bulk xss < 0 := by omega
  obtain ⟨ok, hok⟩ : ∃ ok, (narB vars xss && inB width 0 6 && clauseB vars cl) = ok := ⟨_, rfl⟩
  replace hok := Lib.hid hok
  replace hx := Lib.hid hx
  replace hy := Lib.hid hy
  go_enter Try.func3, Try.ntmps3
  go_wp2_with fail
  refine (szCnf_any vars _ xss F _ _ (Ty.row_below hx.out S0.out.below (Ty.row_lt hx.out)) (by omega) (by omega)).mono ?_
  rw [szOf_yes (by omega)]
  rintro e w1 ⟨rfl, hb1⟩
  have S2 := S0.out.grow hb1
  clear S0 hb1
  replace S2 := Lib.hid S2
  have c_arg_0 := S2.out.cell (i := 0) rfl (o := 0) rfl
  have c_arg_1 := S2.out.cell (i := 0) rfl (o := 1) rfl
  go_wp2_with fail
  refine (toCnf_any vars _ xss F _ (Ty.row_below hx.out S2.out.below (Ty.row_lt hx.out)) (by omega)).mono ?_
  rintro e w3 ⟨v3, F3, rfl, hr3, hn3, hF3, hb3⟩
  obtain ⟨a_r0, c_r0, rfl, _, _⟩ := Ty.row_len hr3
  have S4 := S2.out.row_new hb3 hr3 hn3 hF3
  clear c_arg_0 c_arg_1
  clear S2 hr3 hb3 hn3 hF3
  replace S4 := Lib.hid S4
  go_wp2_with fail
  refine (toIntS_any _ cl G _ (Ty.row_below hy.out S4.out.below (Ty.row_lt hy.out)) (by omega)).mono ?_
  rintro e w5 ⟨v5, F5, rfl, hr5, hn5, hF5, hb5⟩
  obtain ⟨a_r1, c_r1, rfl, _, _⟩ := Ty.row_len hr5
  have S6 := S4.out.row_new hb5 hr5 hn5 hF5
  clear S4 hr5 hb5 hn5 hF5
  replace S6 := Lib.hid S6
  go_wp2_with fail
  obtain ⟨G7, g7⟩ := S6.out.row_at (i := 1) rfl
  obtain ⟨G8, g8⟩ := S6.out.row_at (i := 0) rfl
  refine (specIsIn_any vars width _ _ xss cl G7 G8 _ g7 g8).mono ?_
  clear g7 g8
  rw [hok.out]
  rintro e w9 ⟨q9, rfl, hq9, hb9⟩
  have S10 := S6.out.grow hb9
  clear S6 hb9
  replace S10 := Lib.hid S10
  have c_arg_0 := S10.out.cell (i := 2) rfl (o := 0) rfl
  have c_arg_1 := S10.out.cell (i := 2) rfl (o := 1) rfl
  go_wp2_with fail
  refine (toCnf_any vars _ xss F _ (Ty.row_below hx.out S10.out.below (Ty.row_lt hx.out)) (by omega)).mono ?_
  rintro e w11 ⟨v11, F11, rfl, hr11, hn11, hF11, hb11⟩
  obtain ⟨a_x0, c_x0, rfl, _, _⟩ := Ty.row_len hr11
  have S12 := (S10.out.row_new hb11 hr11 hn11 hF11).alloc_box #[.int .i64 vars, .slice a_x0 xss.length c_x0] 29
  clear c_arg_0 c_arg_1
  clear S10 hr11 hb11 hn11 hF11
  replace S12 := Lib.hid S12
  go_wp2_with fail
  refine (toIntS_any _ cl G _ (Ty.row_below hy.out S12.out.below (Ty.row_lt hy.out)) (by omega)).mono ?_
  rintro e w13 ⟨v13, F13, rfl, hr13, hn13, hF13, hb13⟩
  obtain ⟨a_x1, c_x1, rfl, _, _⟩ := Ty.row_len hr13
  have S14 := S12.out.row_new hb13 hr13 hn13 hF13
  clear S12 hr13 hb13 hn13 hF13
  replace S14 := Lib.hid S14
  have c_bx_0 := S14.out.cell (i := 1) rfl (o := 0) rfl
  have c_bx_1 := S14.out.cell (i := 1) rfl (o := 1) rfl
  go_wp2_with fail
  obtain ⟨G15, g15⟩ := S14.out.row_at (i := 2) rfl
  obtain ⟨G16, g16⟩ := S14.out.row_at (i := 0) rfl
  refine (implIsIn_any vars width _ _ xss cl G15 G16 _ g15 g16).mono ?_
  clear g15 g16
  rw [hok.out]
  rintro e w17 ⟨q17, rfl, hq17, hb17⟩
  obtain rfl := hq9.one hq17
  clear hq9 hq17
  have S18 := S14.out.grow hb17
  clear c_bx_0 c_bx_1
  clear S14 hb17
  replace S18 := Lib.hid S18
  have c_bx_0 := S18.out.cell (i := 1) rfl (o := 0) rfl
  have c_bx_1 := S18.out.cell (i := 1) rfl (o := 1) rfl
  have c_arg_0 := S18.out.cell (i := 5) rfl (o := 0) rfl
  have c_arg_1 := S18.out.cell (i := 5) rfl (o := 1) rfl
  go_wp2_with fail
  clear c_bx_0 c_bx_1 c_arg_0 c_arg_1
  have c_bx_0 := S18.out.cell (i := 1) rfl (o := 0) rfl
  have c_bx_1 := S18.out.cell (i := 1) rfl (o := 1) rfl
  have c_arg_0 := S18.out.cell (i := 5) rfl (o := 0) rfl
  have c_arg_1 := S18.out.cell (i := 5) rfl (o := 1) rfl
  refine wp_region_tail_lit (S := (fun w' => w'.cell? ⟨w11.heap.size, 0, none⟩ = some (.int .i64 vars) ∧ w'.cell? ⟨w11.heap.size, 1, none⟩ = some (.slice a_x0 xss.length c_x0) ∧ w'.cell? ⟨w.heap.size, 0, none⟩ = some (.int .i64 vars) ∧ w'.cell? ⟨w.heap.size, 1, none⟩ = some (.slice va xss.length vc))) 3 [false, false, false, false, false] (by kernel_rfl) (by kernel_rfl) (by kernel_rfl) ?_ ?_
  · exact ⟨c_bx_0, c_bx_1, c_arg_0, c_arg_1⟩
  intro hS
  (refine walkT_take (i := 0) (v := ?_) rfl (by kernel_rfl) (by decide) (by kernel_rfl) (by kernel_rfl) (fun _ _ _ h => h) (Or.inl ⟨by rfl, ?_⟩) (by assumption) ?_; rotate_left; (focus (intro w hSw; (try dsimp only at hSw); go_simp; (try with_reducible rfl); done)); (try simp only [put_rules]))
  (refine walkT_take (i := 1) (v := ?_) rfl (by kernel_rfl) (by decide) (by kernel_rfl) (by kernel_rfl) (fun _ _ _ h => h) (Or.inl ⟨by rfl, ?_⟩) (by assumption) ?_; rotate_left; (focus (intro w hSw; (try dsimp only at hSw); go_simp; (try with_reducible rfl); done)); (try simp only [put_rules]))
  (refine walkT_ready (rs := [2]) (by kernel_rfl) (by simp) (by decide) ?_; refine AllT.cons rfl (fun K hK => ?_) AllT.nil)
  go_simp
  go_at_call 10
  have S19 := Sp.drew S18.out
  clear c_bx_0 c_bx_1 c_arg_0 c_arg_1
  clear S18 
  replace S19 := Lib.hid S19
  refine (toCnf_any vars _ xss F _ (Ty.row_below hx.out S19.out.below (Ty.row_lt hx.out)) (by omega)).mono ?_
  rintro e w20 ⟨v20, F20, rfl, hr20, hn20, hF20, hb20⟩
  obtain ⟨a_y0, c_y0, rfl, _, _⟩ := Ty.row_len hr20
  have S21 := S19.out.row_new hb20 hr20 hn20 hF20
  clear S19 hr20 hb20 hn20 hF20
  replace S21 := Lib.hid S21
  go_wp2_with fail
  have c_bx_0 := S21.out.cell (i := 2) rfl (o := 0) rfl
  have c_bx_1 := S21.out.cell (i := 2) rfl (o := 1) rfl
  have c_arg_0 := S21.out.cell (i := 6) rfl (o := 0) rfl
  have c_arg_1 := S21.out.cell (i := 6) rfl (o := 1) rfl
  refine hK.out _ _ ?_ (fun hS2 => ?_)
  · exact ⟨c_bx_0, c_bx_1, c_arg_0, c_arg_1⟩
  clear hK hS hS2
  (try simp only [put_rules])
  (refine walkT_done (by kernel_rfl) ?_)
  simp only [List.drop_succ_cons, List.drop_zero]
  go_wp2_with fail
  obtain ⟨G22, g22⟩ := S21.out.row_at (i := 3) rfl
  obtain ⟨G23, g23⟩ := S21.out.row_at (i := 0) rfl
  refine (eqCnf_same vars _ _ xss G22 G23 _ g22 g23).mono ?_
  clear g22 g23
  rintro e w24 ⟨rfl, hb24⟩
  have S25 := S21.out.grow hb24
  clear c_bx_0 c_bx_1 c_arg_0 c_arg_1
  clear S21 hb24
  replace S25 := Lib.hid S25
  go_wp2_with fail
  refine (toIntS_any _ cl G _ (Ty.row_below hy.out S25.out.below (Ty.row_lt hy.out)) (by omega)).mono ?_
  rintro e w26 ⟨v26, F26, rfl, hr26, hn26, hF26, hb26⟩
  obtain ⟨a_y1, c_y1, rfl, _, _⟩ := Ty.row_len hr26
  have S27 := S25.out.row_new hb26 hr26 hn26 hF26
  clear S25 hr26 hb26 hn26 hF26
  replace S27 := Lib.hid S27
  go_wp2_with fail
  obtain ⟨G28, g28⟩ := S27.out.row_at (i := 2) rfl
  obtain ⟨G29, g29⟩ := S27.out.row_at (i := 0) rfl
  refine (eqIntS_any _ _ cl cl G28 G29 _ g28 g29).mono ?_
  clear g28 g29
  rw [decide_eq_true (rfl : cl = cl)]
  rintro e wq ⟨rfl, hbq⟩
  have S30 := S27.out.grow hbq
  clear S27 hbq
  replace S30 := Lib.hid S30
  have hB := S30.out.below
  go_wp2_with fail
  go_ret
  exact ⟨rfl, hB⟩
end Go.Proofs.Ytebpknekaljgnaa
