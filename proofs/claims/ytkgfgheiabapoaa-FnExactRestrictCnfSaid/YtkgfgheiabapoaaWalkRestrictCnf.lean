/- The walk of FnExactRestrictCnf. -/
import Derived.Test.YtkgfgheiabapoaaClN
import Derived.Test.YtkgfgheiabapoaaCnfM
namespace Go.Proofs.Ytkgfgheiabapoaa
open Go.RowKit Go.Shelf

theorem sum_of_bulk {xss : List (List Int)} {n : Nat} (h : bulk xss ≤ n) : (xss.map List.length).sum ≤ n := by unfold bulk at h; omega
theorem len_of_bulk {xss : List (List Int)} {n : Nat} (h : bulk xss ≤ n) : ∀ c ∈ xss, c.length ≤ n := fun c hc => by
  obtain ⟨k, hk, rfl⟩ := List.getElem_of_mem hc
  exact Nat.le_trans (get_len_le xss k hk) (sum_of_bulk h)
theorem left_sum (xss : List (List Int)) (a : List Int) : ((restrictB xss a).map List.length).sum ≤ (xss.map List.length).sum := by
  unfold restrictB
  induction xss with
  | nil => simp
  | cons x xss ih =>
    have h1 := left_le x a
    by_cases h : valB x a < 1
    · simp only [List.filter_cons, h, decide_true, if_true, List.map_cons, List.sum_cons]; omega
    · simp only [List.filter_cons, h, decide_false, Bool.false_eq_true, if_false, List.map_cons, List.sum_cons]; omega
theorem rest_sum (vars : Int) (xss : List (List Int)) (a : List Int) : ((restB vars xss a).2.1.map List.length).sum ≤ (xss.map List.length).sum := by
  unfold restB
  split
  · exact left_sum xss a
  · simp

set_option maxRecDepth 100000 in
set_option maxHeartbeats 8000000 in
theorem FnExactRestrictCnf_walk (vars : Int) (v u : Value) (xss : List (List Int)) (a : List Int) (F G : List Nat) (w : World) (hx : (Ty.slice Ty.int).row false w v xss F) (hy : Ty.int.row false w u a G) :
    Calls Try.prog 8 #[.agg #[.int .i64 vars, v], u] w fun e w' => e = .returned (.bool true) ∧ Below w.heap.size w w' := by
  obtain ⟨va, vc, rfl, _, _⟩ := Ty.row_len hx
  obtain ⟨ua, uc, rfl, hu1, hu2⟩ := Ty.row_len hy
  have S0 := (Sp.start w).alloc_box #[.int .i64 vars, .slice va xss.length vc] 66
  replace S0 := Lib.hid S0
  by_cases hbig : (1048576 : Int) < a.length
  · go_enter Try.func8, Try.ntmps8
    go_wp2_with fail
    go_ret
    exact ⟨rfl, (by repeat (first | exact bb _ | assumption | refine bal ?_ _ | refine bdr ?_ | refine bdn ?_ _ | refine bst ?_ (by simp <;> omega) _ | refine btr ?_ (by assumption)))⟩
  have hle : (a.length : Int) ≤ 1048576 := by omega
  by_cases hbig2 : (1048576 : Int) < bulk xss
  · go_enter Try.func8, Try.ntmps8
    go_wp2_with fail
    refine (szCnf_any vars _ xss F _ _ (Ty.row_below hx S0.out.below (Ty.row_lt hx)) (by omega) (by omega)).mono ?_
    rw [szOf_no hbig2]
    rintro e w1 ⟨rfl, hb1⟩
    have S1 := S0.out.grow hb1
    have hB := S1.below
    clear S1
    go_wp2_with fail
    go_ret
    exact ⟨rfl, hB⟩
  have hbk : bulk xss ≤ 1048576 := by omega
  have hz : ¬ (1048576 : Int) - bulk xss < 0 := by omega
  have hsum := sum_of_bulk hbk
  have hlens : ∀ c ∈ xss, c.length ≤ 10000000000 := fun c hc => Nat.le_trans (len_of_bulk hbk c hc) (by decide)
  have hrsum := Nat.le_trans (rest_sum vars xss a) hsum
  obtain ⟨rv, rss, rok, hres⟩ : ∃ rv rss rok, restB vars xss a = (rv, rss, rok) := ⟨_, _, _, rfl⟩
  rw [hres] at hrsum
  replace hres := Lib.hid hres
  replace hlens := Lib.hid hlens
  replace hx := Lib.hid hx
  replace hy := Lib.hid hy
  have s1 : (1 : Int) + (xss.map List.length).sum ≤ 100000000000000000 := by omega
  have s2 : (1 : Int) + (rss.map List.length).sum ≤ 100000000000000000 := by have h : (rss.map List.length).sum ≤ 1048576 := hrsum; omega
  have s3 : (0 : Int) ≤ 1 + (xss.map List.length).sum := by omega
  have s4 : (1 : Int) + (xss.map List.length).sum + a.length ≤ 1000000000000000000 := by omega
  have s5 : ¬ (1 : Int) + (xss.map List.length).sum + a.length < 0 := by omega
  have s6 : ¬ (1 : Int) + (rss.map List.length).sum < 0 := by omega
  go_enter Try.func8, Try.ntmps8
  go_wp2_with fail
  refine (szCnf_any vars _ xss F _ _ (Ty.row_below hx.out S0.out.below (Ty.row_lt hx.out)) (by omega) (by omega)).mono ?_
  rw [szOf_yes (by omega)]
  rintro e w1 ⟨rfl, hb1⟩
  have S2 := S0.out.grow hb1
  clear S0 hb1
  replace S2 := Lib.hid S2
  have c_arg_0 := S2.out.cell (i := 0) rfl (o := 0) rfl
  have c_arg_1 := S2.out.cell (i := 0) rfl (o := 1) rfl
  go_wp2_with fail
  refine (toCnf_any vars _ xss F _ (Ty.row_below hx.out S2.out.below (Ty.row_lt hx.out)) (by omega)).mono ?_
  rintro e w3 ⟨v3, F3, rfl, hr3, hn3, hF3, hb3⟩
  obtain ⟨a_r0, c_r0, rfl, _, _⟩ := Ty.row_len hr3
  have S4 := S2.out.row_new hb3 hr3 hn3 hF3
  clear c_arg_0 c_arg_1
  clear S2 hr3 hb3 hn3 hF3
  replace S4 := Lib.hid S4
  go_wp2_with fail
  refine (toIntS_any _ a G _ (Ty.row_below hy.out S4.out.below (Ty.row_lt hy.out)) (by omega)).mono ?_
  rintro e w5 ⟨v5, F5, rfl, hr5, hn5, hF5, hb5⟩
  obtain ⟨a_r1, c_r1, rfl, _, _⟩ := Ty.row_len hr5
  have S6 := S4.out.row_new hb5 hr5 hn5 hF5
  clear S4 hr5 hb5 hn5 hF5
  replace S6 := Lib.hid S6
  go_wp2_with fail
  obtain ⟨G7, g7⟩ := S6.out.row_at (i := 1) rfl
  obtain ⟨G8, g8⟩ := S6.out.row_at (i := 0) rfl
  refine (specRestrictCnf_any vars _ _ xss a G7 G8 _ g7 g8 hlens.out).mono ?_
  clear g7 g8
  rw [hres.out]
  rintro e w9 ⟨v9, F9, rfl, hr9, hn9, hF9, hb9⟩
  obtain ⟨a_r, c_r, rfl, _, _⟩ := Ty.row_len hr9
  have S10 := (S6.out.row_new hb9 hr9 hn9 hF9).alloc_box #[.int .i64 rv, .slice a_r rss.length c_r] 68
  clear S6 hr9 hb9 hn9 hF9
  replace S10 := Lib.hid S10
  have c_arg_0 := S10.out.cell (i := 4) rfl (o := 0) rfl
  have c_arg_1 := S10.out.cell (i := 4) rfl (o := 1) rfl
  go_wp2_with fail
  refine (toCnf_any vars _ xss F _ (Ty.row_below hx.out S10.out.below (Ty.row_lt hx.out)) (by omega)).mono ?_
  rintro e w11 ⟨v11, F11, rfl, hr11, hn11, hF11, hb11⟩
  obtain ⟨a_x0, c_x0, rfl, _, _⟩ := Ty.row_len hr11
  have S12 := (S10.out.row_new hb11 hr11 hn11 hF11).alloc_box #[.int .i64 vars, .slice a_x0 xss.length c_x0] 68
  clear c_arg_0 c_arg_1
  clear S10 hr11 hb11 hn11 hF11
  replace S12 := Lib.hid S12
  go_wp2_with fail
  refine (toIntS_any _ a G _ (Ty.row_below hy.out S12.out.below (Ty.row_lt hy.out)) (by omega)).mono ?_
  rintro e w13 ⟨v13, F13, rfl, hr13, hn13, hF13, hb13⟩
  obtain ⟨a_x1, c_x1, rfl, _, _⟩ := Ty.row_len hr13
  have S14 := S12.out.row_new hb13 hr13 hn13 hF13
  clear S12 hr13 hb13 hn13 hF13
  replace S14 := Lib.hid S14
  have c_bx_0 := S14.out.cell (i := 1) rfl (o := 0) rfl
  have c_bx_1 := S14.out.cell (i := 1) rfl (o := 1) rfl
  go_wp2_with fail
  obtain ⟨G15, g15⟩ := S14.out.row_at (i := 2) rfl
  obtain ⟨G16, g16⟩ := S14.out.row_at (i := 0) rfl
  refine (implRestrictCnf_any vars _ _ xss a G15 G16 _ g15 g16 hlens.out).mono ?_
  clear g15 g16
  rw [hres.out]
  rintro e w17 ⟨v17, F17, rfl, hr17, hn17, hF17, hb17⟩
  obtain ⟨a_g, c_g, rfl, _, _⟩ := Ty.row_len hr17
  have S18 := (S14.out.row_new hb17 hr17 hn17 hF17).alloc_box #[.int .i64 rv, .slice a_g rss.length c_g] 68
  clear c_bx_0 c_bx_1
  clear S14 hr17 hb17 hn17 hF17
  replace S18 := Lib.hid S18
  have c_bg_0 := S18.out.cell (i := 0) rfl (o := 0) rfl
  have c_bg_1 := S18.out.cell (i := 0) rfl (o := 1) rfl
  have c_bw_0 := S18.out.cell (i := 5) rfl (o := 0) rfl
  have c_bw_1 := S18.out.cell (i := 5) rfl (o := 1) rfl
  go_wp2_with fail
  obtain ⟨G19, g19⟩ := S18.out.row_at (i := 1) rfl
  obtain ⟨G20, g20⟩ := S18.out.row_at (i := 6) rfl
  refine (eqCnf_same rv _ _ rss G19 G20 _ g19 g20).mono ?_
  clear g19 g20
  rintro e w21 ⟨rfl, hb21⟩
  have S22 := S18.out.grow hb21
  clear c_bg_0 c_bg_1 c_bw_0 c_bw_1
  clear S18 hb21
  replace S22 := Lib.hid S22
  have c_bx_0 := S22.out.cell (i := 3) rfl (o := 0) rfl
  have c_bx_1 := S22.out.cell (i := 3) rfl (o := 1) rfl
  have c_arg_0 := S22.out.cell (i := 9) rfl (o := 0) rfl
  have c_arg_1 := S22.out.cell (i := 9) rfl (o := 1) rfl
  go_wp2_with fail
  clear c_bx_0 c_bx_1 c_arg_0 c_arg_1
  have c_bx_0 := S22.out.cell (i := 3) rfl (o := 0) rfl
  have c_bx_1 := S22.out.cell (i := 3) rfl (o := 1) rfl
  have c_arg_0 := S22.out.cell (i := 9) rfl (o := 0) rfl
  have c_arg_1 := S22.out.cell (i := 9) rfl (o := 1) rfl
  refine wp_region_tail (S := (fun w' => w'.cell? ⟨w11.heap.size, 0, none⟩ = some (.int .i64 vars) ∧ w'.cell? ⟨w11.heap.size, 1, none⟩ = some (.slice a_x0 xss.length c_x0) ∧ w'.cell? ⟨w.heap.size, 0, none⟩ = some (.int .i64 vars) ∧ w'.cell? ⟨w.heap.size, 1, none⟩ = some (.slice va xss.length vc))) 3 (by kernel_rfl) (by kernel_rfl) ?_ ?_
  · exact ⟨c_bx_0, c_bx_1, c_arg_0, c_arg_1⟩
  intro hS
  (refine walkT_take (i := 0) (v := ?_) rfl (by kernel_rfl) (by decide) (by kernel_rfl) (by kernel_rfl) (fun _ _ _ h => h) (Or.inl ⟨by rfl, ?_⟩) (by assumption) ?_; rotate_left; focus (intro w hSw; (try dsimp only at hSw); go_simp; (try with_reducible rfl); done); (try simp only [Act.put, List.setIfInBounds_toArray, List.set_cons_zero, List.set_cons_succ]))
  (refine walkT_take (i := 1) (v := ?_) rfl (by kernel_rfl) (by decide) (by kernel_rfl) (by kernel_rfl) (fun _ _ _ h => h) (Or.inl ⟨by rfl, ?_⟩) (by assumption) ?_; rotate_left; focus (intro w hSw; (try dsimp only at hSw); go_simp; (try with_reducible rfl); done); (try simp only [Act.put, List.setIfInBounds_toArray, List.set_cons_zero, List.set_cons_succ]))
  (refine walkT_ready (rs := [2]) (by kernel_rfl) (by simp) (by decide) ?_; refine AllT.cons rfl (fun K hK => ?_) AllT.nil)
  go_simp
  go_at_call 44
  have S23 := Sp.drew S22.out
  clear c_bx_0 c_bx_1 c_arg_0 c_arg_1
  clear S22 
  replace S23 := Lib.hid S23
  refine (toCnf_any vars _ xss F _ (Ty.row_below hx.out S23.out.below (Ty.row_lt hx.out)) (by omega)).mono ?_
  rintro e w24 ⟨v24, F24, rfl, hr24, hn24, hF24, hb24⟩
  obtain ⟨a_y0, c_y0, rfl, _, _⟩ := Ty.row_len hr24
  have S25 := S23.out.row_new hb24 hr24 hn24 hF24
  clear S23 hr24 hb24 hn24 hF24
  replace S25 := Lib.hid S25
  go_wp2_with fail
  have c_bx_0 := S25.out.cell (i := 4) rfl (o := 0) rfl
  have c_bx_1 := S25.out.cell (i := 4) rfl (o := 1) rfl
  have c_arg_0 := S25.out.cell (i := 10) rfl (o := 0) rfl
  have c_arg_1 := S25.out.cell (i := 10) rfl (o := 1) rfl
  refine hK.out _ _ ?_ (fun hS2 => ?_)
  · exact ⟨c_bx_0, c_bx_1, c_arg_0, c_arg_1⟩
  clear hK hS hS2
  (try simp only [Act.put, List.setIfInBounds_toArray, List.set_cons_zero, List.set_cons_succ])
  (refine walkT_done (by kernel_rfl) ?_)
  simp only [List.drop_succ_cons, List.drop_zero]
  go_wp2_with fail
  obtain ⟨G26, g26⟩ := S25.out.row_at (i := 5) rfl
  obtain ⟨G27, g27⟩ := S25.out.row_at (i := 0) rfl
  refine (eqCnf_same vars _ _ xss G26 G27 _ g26 g27).mono ?_
  clear g26 g27
  rintro e w28 ⟨rfl, hb28⟩
  have S29 := S25.out.grow hb28
  clear c_bx_0 c_bx_1 c_arg_0 c_arg_1
  clear S25 hb28
  replace S29 := Lib.hid S29
  go_wp2_with fail
  refine (toIntS_any _ a G _ (Ty.row_below hy.out S29.out.below (Ty.row_lt hy.out)) (by omega)).mono ?_
  rintro e w30 ⟨v30, F30, rfl, hr30, hn30, hF30, hb30⟩
  obtain ⟨a_y1, c_y1, rfl, _, _⟩ := Ty.row_len hr30
  have S31 := S29.out.row_new hb30 hr30 hn30 hF30
  clear S29 hr30 hb30 hn30 hF30
  replace S31 := Lib.hid S31
  go_wp2_with fail
  obtain ⟨G32, g32⟩ := S31.out.row_at (i := 4) rfl
  obtain ⟨G33, g33⟩ := S31.out.row_at (i := 0) rfl
  refine (eqIntS_any _ _ a a G32 G33 _ g32 g33).mono ?_
  clear g32 g33
  rw [decide_eq_true (rfl : a = a)]
  rintro e wq ⟨rfl, hbq⟩
  have S34 := S31.out.grow hbq
  clear S31 hbq
  replace S34 := Lib.hid S34
  have c_bx_0 := S34.out.cell (i := 5) rfl (o := 0) rfl
  have c_bx_1 := S34.out.cell (i := 5) rfl (o := 1) rfl
  go_wp2_with fail
  obtain ⟨F35, hr35, hn35, hall35⟩ := S34.out.mark (i := 6) rfl
  refine (markCnf_any vars _ 1 xss F35 _ hr35 hn35 (by decide) s1).mono ?_
  rintro e w35 ⟨rfl, hq35, hc35⟩
  have S36 := hall35 _ _ hq35 hc35
  clear c_bx_0 c_bx_1
  clear S34 hr35 hn35 hall35 hq35 hc35
  replace S36 := Lib.hid S36
  go_wp2_with fail
  obtain ⟨F37, hr37, hn37, hall37⟩ := S36.out.mark (i := 4) rfl
  refine (markIntS_any _ _ a F37 _ hr37 s3 s4).mono ?_
  rintro e w37 ⟨rfl, hq37, hc37⟩
  have S38 := hall37 _ _ hq37 hc37
  clear S36 hr37 hn37 hall37 hq37 hc37
  replace S38 := Lib.hid S38
  have c_bg_0 := S38.out.cell (i := 2) rfl (o := 0) rfl
  have c_bg_1 := S38.out.cell (i := 2) rfl (o := 1) rfl
  have c_bw_0 := S38.out.cell (i := 7) rfl (o := 0) rfl
  have c_bw_1 := S38.out.cell (i := 7) rfl (o := 1) rfl
  go_wp2_with fail
  obtain ⟨G39, g39⟩ := S38.out.row_at (i := 3) rfl
  obtain ⟨G40, g40⟩ := S38.out.row_at (i := 8) rfl
  refine (eqCnf_same rv _ _ rss G39 G40 _ g39 g40).mono ?_
  clear g39 g40
  rintro e w41 ⟨rfl, hb41⟩
  have S42 := S38.out.grow hb41
  clear c_bg_0 c_bg_1 c_bw_0 c_bw_1
  clear S38 hb41
  replace S42 := Lib.hid S42
  have c_bg_0 := S42.out.cell (i := 2) rfl (o := 0) rfl
  have c_bg_1 := S42.out.cell (i := 2) rfl (o := 1) rfl
  go_wp2_with fail
  obtain ⟨F43, hr43, hn43, hall43⟩ := S42.out.mark (i := 3) rfl
  refine (markCnf_any rv _ 1 rss F43 _ hr43 hn43 (by decide) s2).mono ?_
  rintro e w43 ⟨rfl, hq43, hc43⟩
  have S44 := hall43 _ _ hq43 hc43
  clear c_bg_0 c_bg_1
  clear S42 hr43 hn43 hall43 hq43 hc43
  replace S44 := Lib.hid S44
  have c_bg_0 := S44.out.cell (i := 2) rfl (o := 0) rfl
  have c_bg_1 := S44.out.cell (i := 2) rfl (o := 1) rfl
  go_wp2_with fail
  obtain ⟨G45, g45⟩ := S44.out.row_at (i := 3) rfl
  refine (heldCnf_same rv _ 1 rss G45 _ g45 (by decide) s2).mono ?_
  clear g45
  rintro e w46 ⟨rfl, hb46⟩
  have S47 := S44.out.grow hb46
  clear c_bg_0 c_bg_1
  clear S44 hb46
  replace S47 := Lib.hid S47
  have c_arg_0 := S47.out.cell (i := 11) rfl (o := 0) rfl
  have c_arg_1 := S47.out.cell (i := 11) rfl (o := 1) rfl
  go_wp2_with fail
  refine (toCnf_any vars _ xss F _ (Ty.row_below hx.out S47.out.below (Ty.row_lt hx.out)) (by omega)).mono ?_
  rintro e w48 ⟨v48, F48, rfl, hr48, hn48, hF48, hb48⟩
  obtain ⟨a_h0, c_h0, rfl, _, _⟩ := Ty.row_len hr48
  have S49 := S47.out.row_new hb48 hr48 hn48 hF48
  clear c_arg_0 c_arg_1
  clear S47 hr48 hb48 hn48 hF48
  replace S49 := Lib.hid S49
  go_wp2_with fail
  refine (toIntS_any _ a G _ (Ty.row_below hy.out S49.out.below (Ty.row_lt hy.out)) (by omega)).mono ?_
  rintro e w50 ⟨v50, F50, rfl, hr50, hn50, hF50, hb50⟩
  obtain ⟨a_h1, c_h1, rfl, _, _⟩ := Ty.row_len hr50
  have S51 := S49.out.row_new hb50 hr50 hn50 hF50
  clear S49 hr50 hb50 hn50 hF50
  replace S51 := Lib.hid S51
  go_wp2_with fail
  obtain ⟨G52, g52⟩ := S51.out.row_at (i := 1) rfl
  obtain ⟨G53, g53⟩ := S51.out.row_at (i := 0) rfl
  refine (implRestrictCnf_any vars _ _ xss a G52 G53 _ g52 g53 hlens.out).mono ?_
  clear g52 g53
  rw [hres.out]
  rintro e w54 ⟨v54, F54, rfl, hr54, hn54, hF54, hb54⟩
  obtain ⟨a_h, c_h, rfl, _, _⟩ := Ty.row_len hr54
  have S55 := (S51.out.row_new hb54 hr54 hn54 hF54).alloc_box #[.int .i64 rv, .slice a_h rss.length c_h] 68
  clear S51 hr54 hb54 hn54 hF54
  replace S55 := Lib.hid S55
  have c_bh_0 := S55.out.cell (i := 0) rfl (o := 0) rfl
  have c_bh_1 := S55.out.cell (i := 0) rfl (o := 1) rfl
  have c_bw_0 := S55.out.cell (i := 11) rfl (o := 0) rfl
  have c_bw_1 := S55.out.cell (i := 11) rfl (o := 1) rfl
  go_wp2_with fail
  obtain ⟨G56, g56⟩ := S55.out.row_at (i := 1) rfl
  obtain ⟨G57, g57⟩ := S55.out.row_at (i := 12) rfl
  refine (eqCnf_same rv _ _ rss G56 G57 _ g56 g57).mono ?_
  clear g56 g57
  rintro e w58 ⟨rfl, hb58⟩
  have S59 := S55.out.grow hb58
  clear c_bh_0 c_bh_1 c_bw_0 c_bw_1
  clear S55 hb58
  replace S59 := Lib.hid S59
  have c_bg_0 := S59.out.cell (i := 6) rfl (o := 0) rfl
  have c_bg_1 := S59.out.cell (i := 6) rfl (o := 1) rfl
  go_wp2_with fail
  obtain ⟨G60, g60⟩ := S59.out.row_at (i := 7) rfl
  refine (heldCnf_same rv _ 1 rss G60 _ g60 (by decide) s2).mono ?_
  clear g60
  rintro e w61 ⟨rfl, hb61⟩
  have S62 := S59.out.grow hb61
  clear c_bg_0 c_bg_1
  clear S59 hb61
  replace S62 := Lib.hid S62
  have hB := S62.out.below
  go_wp2_with fail
  go_ret
  exact ⟨rfl, hB⟩
end Go.Proofs.Ytkgfgheiabapoaa
