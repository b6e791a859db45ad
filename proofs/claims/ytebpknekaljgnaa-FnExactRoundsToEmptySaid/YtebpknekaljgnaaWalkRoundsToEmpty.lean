/- The walk of FnExactRoundsToEmpty. Printed by law_closure.py. -/
import Derived.Test.YtebpknekaljgnaaNwX
import Derived.Test.YtebpknekaljgnaaCnfM
import Derived.Test.YtebpknekaljgnaaHTail
namespace Go.Proofs.Ytebpknekaljgnaa
open Go.RowKit

set_option maxRecDepth 100000 in
set_option maxHeartbeats 8000000 in
theorem FnExactRoundsToEmpty_walk (vars : Int) (v : Value) (xss : List (List Int)) (F : List Nat) (w : World) (hx : (Ty.slice Ty.int).row false w v xss F) :
    Calls Try.prog 5 #[.agg #[.int .i64 vars, v]] w fun e w' => e = .returned (.bool true) ∧ Below w.heap.size w w' := by
  obtain ⟨va, vc, rfl, _, _⟩ := Ty.row_len hx
  have S0 := (Sp.start w).alloc_box #[.int .i64 vars, .slice va xss.length vc] 24
  replace S0 := Lib.hid S0
  by_cases hbig2 : (1048576 : Int) < bulk xss
  · go_enter Try.func5, Try.ntmps5
    go_wp2_with fail
    refine (szCnf_any vars _ xss F _ _ (Ty.row_below hx S0.out.below (Ty.row_lt hx)) (by omega) (by omega)).mono ?_
    rw [szOf_no hbig2]
    rintro e w1 ⟨rfl, hb1⟩
    have S1 := S0.out.grow hb1
    have hB := S1.below
    clear S1
    go_wp2_with fail
    go_ret
    exact ⟨rfl, hB⟩
  have hbk : bulk xss ≤ 1048576 := by omega
  have hz : ¬ (1048576 : Int) - bulk xss < 0 := by omega
  obtain ⟨ok, hok⟩ : ∃ ok, narB vars xss = ok := ⟨_, rfl⟩
  replace hok := Lib.hid hok
  replace hx := Lib.hid hx
  go_enter Try.func5, Try.ntmps5
  go_wp2_with fail
  refine (szCnf_any vars _ xss F _ _ (Ty.row_below hx.out S0.out.below (Ty.row_lt hx.out)) (by omega) (by omega)).mono ?_
  rw [szOf_yes (by omega)]
  rintro e w1 ⟨rfl, hb1⟩
  have S2 := S0.out.grow hb1
  clear S0 hb1
  replace S2 := Lib.hid S2
  have c_arg_0 := S2.out.cell (i := 0) rfl (o := 0) rfl
  have c_arg_1 := S2.out.cell (i := 0) rfl (o := 1) rfl
  go_wp2_with fail
  refine (toCnf_any vars _ xss F _ (Ty.row_below hx.out S2.out.below (Ty.row_lt hx.out)) (by omega)).mono ?_
  rintro e w3 ⟨v3, F3, rfl, hr3, hn3, hF3, hb3⟩
  obtain ⟨a_r0, c_r0, rfl, _, _⟩ := Ty.row_len hr3
  have S4 := S2.out.row_new hb3 hr3 hn3 hF3
  clear c_arg_0 c_arg_1
  clear S2 hr3 hb3 hn3 hF3
  replace S4 := Lib.hid S4
  go_wp2_with fail
  obtain ⟨G5, g5⟩ := S4.out.row_at (i := 0) rfl
  refine (specRounds_any vars _ xss G5 _ g5).mono ?_
  clear g5
  rw [hok.out]
  rintro e w6 ⟨q6, t6, rfl, hq6, hb6⟩
  have S7 := S4.out.grow hb6
  clear S4 hb6
  replace S7 := Lib.hid S7
  have c_arg_0 := S7.out.cell (i := 1) rfl (o := 0) rfl
  have c_arg_1 := S7.out.cell (i := 1) rfl (o := 1) rfl
  go_wp2_with fail
  refine (toCnf_any vars _ xss F _ (Ty.row_below hx.out S7.out.below (Ty.row_lt hx.out)) (by omega)).mono ?_
  rintro e w8 ⟨v8, F8, rfl, hr8, hn8, hF8, hb8⟩
  obtain ⟨a_x0, c_x0, rfl, _, _⟩ := Ty.row_len hr8
  have S9 := (S7.out.row_new hb8 hr8 hn8 hF8).alloc_box #[.int .i64 vars, .slice a_x0 xss.length c_x0] 29
  clear c_arg_0 c_arg_1
  clear S7 hr8 hb8 hn8 hF8
  replace S9 := Lib.hid S9
  go_wp2_with fail
  have c_bx_0 := S9.out.cell (i := 0) rfl (o := 0) rfl
  have c_bx_1 := S9.out.cell (i := 0) rfl (o := 1) rfl
  obtain ⟨G10, g10⟩ := S9.out.row_at (i := 1) rfl
  refine (implRounds_any vars _ xss G10 _ g10).mono ?_
  clear g10
  rw [hok.out]
  rintro e w11 ⟨q11, t11, rfl, hq11, hb11⟩
  obtain ⟨rfl, rfl⟩ := hq6.one hq11
  clear hq6 hq11
  have S12 := S9.out.grow hb11
  clear c_bx_0 c_bx_1
  clear S9 hb11
  replace S12 := Lib.hid S12
  have c_bx_0 := S12.out.cell (i := 0) rfl (o := 0) rfl
  have c_bx_1 := S12.out.cell (i := 0) rfl (o := 1) rfl
  have c_arg_0 := S12.out.cell (i := 3) rfl (o := 0) rfl
  have c_arg_1 := S12.out.cell (i := 3) rfl (o := 1) rfl
  go_wp2_with fail
  clear c_bx_0 c_bx_1 c_arg_0 c_arg_1
  have c_bx_0 := S12.out.cell (i := 0) rfl (o := 0) rfl
  have c_bx_1 := S12.out.cell (i := 0) rfl (o := 1) rfl
  have c_arg_0 := S12.out.cell (i := 3) rfl (o := 0) rfl
  have c_arg_1 := S12.out.cell (i := 3) rfl (o := 1) rfl
  refine wp_region_tail_lit (S := (fun w' => w'.cell? ⟨w8.heap.size, 0, none⟩ = some (.int .i64 vars) ∧ w'.cell? ⟨w8.heap.size, 1, none⟩ = some (.slice a_x0 xss.length c_x0) ∧ w'.cell? ⟨w.heap.size, 0, none⟩ = some (.int .i64 vars) ∧ w'.cell? ⟨w.heap.size, 1, none⟩ = some (.slice va xss.length vc))) 3 [false, false, false, false, false] (by kernel_rfl) (by kernel_rfl) (by kernel_rfl) ?_ ?_
  · exact ⟨c_bx_0, c_bx_1, c_arg_0, c_arg_1⟩
  intro hS
  (refine walkT_take (i := 0) (v := ?_) rfl (by kernel_rfl) (by decide) (by kernel_rfl) (by kernel_rfl) (fun _ _ _ h => h) (Or.inl ⟨by rfl, ?_⟩) (by assumption) ?_; rotate_left; (focus (intro w hSw; (try dsimp only at hSw); go_simp; (try with_reducible rfl); done)); (try simp only [put_rules]))
  (refine walkT_take (i := 1) (v := ?_) rfl (by kernel_rfl) (by decide) (by kernel_rfl) (by kernel_rfl) (fun _ _ _ h => h) (Or.inl ⟨by rfl, ?_⟩) (by assumption) ?_; rotate_left; (focus (intro w hSw; (try dsimp only at hSw); go_simp; (try with_reducible rfl); done)); (try simp only [put_rules]))
  (refine walkT_ready (rs := [2]) (by kernel_rfl) (by simp) (by decide) ?_; refine AllT.cons rfl (fun K hK => ?_) AllT.nil)
  go_simp
  go_at_call 10
  have S13 := Sp.drew S12.out
  clear c_bx_0 c_bx_1 c_arg_0 c_arg_1
  clear S12 
  replace S13 := Lib.hid S13
  refine (toCnf_any vars _ xss F _ (Ty.row_below hx.out S13.out.below (Ty.row_lt hx.out)) (by omega)).mono ?_
  rintro e w14 ⟨v14, F14, rfl, hr14, hn14, hF14, hb14⟩
  obtain ⟨a_y0, c_y0, rfl, _, _⟩ := Ty.row_len hr14
  have S15 := S13.out.row_new hb14 hr14 hn14 hF14
  clear S13 hr14 hb14 hn14 hF14
  replace S15 := Lib.hid S15
  go_wp2_with fail
  have c_bx_0 := S15.out.cell (i := 1) rfl (o := 0) rfl
  have c_bx_1 := S15.out.cell (i := 1) rfl (o := 1) rfl
  have c_arg_0 := S15.out.cell (i := 4) rfl (o := 0) rfl
  have c_arg_1 := S15.out.cell (i := 4) rfl (o := 1) rfl
  refine hK.out _ _ ?_ (fun hS2 => ?_)
  · exact ⟨c_bx_0, c_bx_1, c_arg_0, c_arg_1⟩
  clear hK hS hS2
  (try simp only [put_rules])
  (refine walkT_done (by kernel_rfl) ?_)
  simp only [List.drop_succ_cons, List.drop_zero]
  go_wp2_with fail
  obtain ⟨G16, g16⟩ := S15.out.row_at (i := 2) rfl
  obtain ⟨G17, g17⟩ := S15.out.row_at (i := 0) rfl
  refine (eqCnf_same vars _ _ xss G16 G17 _ g16 g17).mono ?_
  clear g16 g17
  rintro e w18 ⟨rfl, hb18⟩
  have S19 := S15.out.grow hb18
  clear c_bx_0 c_bx_1 c_arg_0 c_arg_1
  clear S15 hb18
  replace S19 := Lib.hid S19
  have hB := S19.out.below
  go_wp2_with fail
  go_ret
  exact ⟨rfl, hB⟩
end Go.Proofs.Ytebpknekaljgnaa
