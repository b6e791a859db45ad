/- The walk of FnLog. -/
import Derived.Test.YtfcekfomhpmgpaaDoorLogJ
import Derived.Test.YtfcekfomhpmgpaaDoorLinC
import Derived.Test.YtfcekfomhpmgpaaDoorCurG
import Derived.Test.YtfcekfomhpmgpaaDoorWalkCrashRecovery
namespace Go.Proofs.YtfcekfomhpmgpaaDoor
open Go.RowKit

set_option maxRecDepth 100000 in
set_option maxHeartbeats 8000000 in
theorem FnLog_walk (ca : Option Addr) (cl cc : Nat) (a : Addr) (w : World) (hE : EnvE a w) (hc : CodeOk w ca cl) :
    Calls Tryd.prog 12 #[.slice ca cl cc] w fun e w' => e = .returned (.bool true) ∧ Below w.heap.size w w' := by
  have hEH := Lib.hid hE
  have hcH := Lib.hid hc
  clear hE hc
  by_cases hbig : (65536 : Int) < (cl : Int)
  · go_enter Tryd.func12, Tryd.ntmps12
    go_wp2_with fail
    refine (vBig_any _ _ _ _).mono ?_
    rintro e w1 ⟨rfl, rfl⟩
    rw [decide_eq_true hbig]
    go_wp2_with fail
    go_ret
    exact ⟨rfl, bb _⟩
  have hsm : cl ≤ 65536 := by omega
  have hv := Lib.hid (decide_eq_false hbig)
  clear hbig
  go_enter Tryd.func12, Tryd.ntmps12
  go_wp2_with fail
  refine (vBig_any _ _ _ _).mono ?_
  rintro e w1 ⟨rfl, rfl⟩
  rw [hv.out]
  go_wp2_with fail
  refine (drawAppendRecord_any ca cl cc w1 hcH.out hsm).mono ?_
  rintro e w2 ⟨d, p, c, q, r, hdp, hq, hr, rfl, hb2⟩
  have S2 := (((Sp.start w1).grow hb2).alloc_box #[.string d, .string p, .int .i64 c] 31).alloc_box #[.string q, .string r] 27
  simp only [World.size_alloc] at S2
  clear hb2
  obtain ⟨ad, had⟩ : ∃ ad, addB (bl d) (bl p) c (bl q) (bl r) = ad := ⟨_, rfl⟩
  obtain ⟨p2, c2, co⟩ := ad
  replace had := Lib.hid had
  have c0 := S2.cell (i := 1) rfl (o := 0) rfl
  have c1 := S2.cell (i := 1) rfl (o := 1) rfl
  have c2' := S2.cell (i := 1) rfl (o := 2) rfl
  have d0 := S2.cell (i := 0) rfl (o := 0) rfl
  have d1 := S2.cell (i := 0) rfl (o := 1) rfl
  have hB2 := S2.below
  replace S2 := Lib.hid S2
  go_wp2_with fail
  refine (implAppendRecord_any d p q r c a _ (hEH.out.grow hB2) (by omega) (by omega) (by omega) (by omega)).mono ?_
  rw [had.out]
  rintro e w3 ⟨rfl, hb3⟩
  have S3 := (S2.out.grow hb3).alloc_box #[.string d, .string (ms p2), .int .i64 c2] 31
  clear S2 hb3 c0 c1 c2' d0 d1 hB2
  have c0 := S3.cell (i := 2) rfl (o := 0) rfl
  have c1 := S3.cell (i := 2) rfl (o := 1) rfl
  have c2' := S3.cell (i := 2) rfl (o := 2) rfl
  have d0 := S3.cell (i := 1) rfl (o := 0) rfl
  have d1 := S3.cell (i := 1) rfl (o := 1) rfl
  replace S3 := Lib.hid S3
  go_wp2_with fail
  refine (specAppendRecord_any d p q r c _ (by omega) (by omega) (by omega) (by omega)).mono ?_
  rw [had.out]
  rintro e w4 ⟨rfl, hb4⟩
  have S4 := (S3.out.grow hb4).alloc_box #[.string d, .string (ms p2), .int .i64 c2] 31
  clear S3 hb4 c0 c1 c2' d0 d1
  have g00 := S4.cell (i := 1) rfl (o := 0) rfl
  have g01 := S4.cell (i := 1) rfl (o := 1) rfl
  have g02 := S4.cell (i := 1) rfl (o := 2) rfl
  have g10 := S4.cell (i := 0) rfl (o := 0) rfl
  have g11 := S4.cell (i := 0) rfl (o := 1) rfl
  have g12 := S4.cell (i := 0) rfl (o := 2) rfl
  have g20 := S4.cell (i := 3) rfl (o := 0) rfl
  have g21 := S4.cell (i := 3) rfl (o := 1) rfl
  have g22 := S4.cell (i := 3) rfl (o := 2) rfl
  have g30 := S4.cell (i := 2) rfl (o := 0) rfl
  have g31 := S4.cell (i := 2) rfl (o := 1) rfl
  replace S4 := Lib.hid S4
  go_wp2_with fail
  refine wp_region_held_lit (S := (fun w' => w'.cell? ⟨w3.heap.size, 0, none⟩ = some (.string d) ∧ w'.cell? ⟨w3.heap.size, 1, none⟩ = some (.string (ms p2)) ∧ w'.cell? ⟨w3.heap.size, 2, none⟩ = some (.int .i64 c2) ∧ w'.cell? ⟨w4.heap.size, 0, none⟩ = some (.string d) ∧ w'.cell? ⟨w4.heap.size, 1, none⟩ = some (.string (ms p2)) ∧ w'.cell? ⟨w4.heap.size, 2, none⟩ = some (.int .i64 c2) ∧ w'.cell? ⟨w2.heap.size, 0, none⟩ = some (.string d) ∧ w'.cell? ⟨w2.heap.size, 1, none⟩ = some (.string p) ∧ w'.cell? ⟨w2.heap.size, 2, none⟩ = some (.int .i64 c) ∧ w'.cell? ⟨w2.heap.size + 1, 0, none⟩ = some (.string q) ∧ w'.cell? ⟨w2.heap.size + 1, 1, none⟩ = some (.string r))) 22 [false, false, false, false, false, false, false, false, false, false, false, false, false, false, false, false, false, false, false, false, false, false] (by kernel_rfl) (by kernel_rfl) (by kernel_rfl) ?_ ?_
  · exact ⟨g00, g01, g02, g10, g11, g12, g20, g21, g22, g30, g31⟩
  intro hS
  clear g00 g01 g02 g10 g11 g12 g20 g21 g22 g30 g31
  (refine wpAnyH_take (i := 0) (v := ?_) rfl (by kernel_rfl) (by kernel_rfl) (by kernel_rfl) (fun _ _ _ h => h) (Or.inl ⟨by rfl, ?_⟩) (by assumption) ?_; rotate_left; (focus (intro w hSw; (try dsimp only at hSw); go_simp; (try with_reducible rfl); done)); (try simp only [put_rules]))
  (refine wpAnyH_take (i := 1) (v := ?_) rfl (by kernel_rfl) (by kernel_rfl) (by kernel_rfl) (fun _ _ _ h => h) (Or.inl ⟨by rfl, ?_⟩) (by assumption) ?_; rotate_left; (focus (intro w hSw; (try dsimp only at hSw); go_simp; (try with_reducible rfl); done)); (try simp only [put_rules]))
  (refine wpAnyH_take (i := 2) (v := ?_) rfl (by kernel_rfl) (by kernel_rfl) (by kernel_rfl) (fun _ _ _ h => h) (Or.inl ⟨by rfl, ?_⟩) (by assumption) ?_; rotate_left; (focus (intro w hSw; (try dsimp only at hSw); go_simp; (try with_reducible rfl); done)); (try simp only [put_rules]))
  (refine wpAnyH_take (i := 3) (v := ?_) rfl (by kernel_rfl) (by kernel_rfl) (by kernel_rfl) (fun _ _ _ h => h) (Or.inl ⟨by rfl, ?_⟩) (by assumption) ?_; rotate_left; (focus (intro w hSw; (try dsimp only at hSw); go_simp; (try with_reducible rfl); done)); (try simp only [put_rules]))
  (refine wpAnyH_take (i := 4) (v := ?_) rfl (by kernel_rfl) (by kernel_rfl) (by kernel_rfl) (fun _ _ _ h => h) (Or.inl ⟨by rfl, ?_⟩) (by assumption) ?_; rotate_left; (focus (intro w hSw; (try dsimp only at hSw); go_simp; (try with_reducible rfl); done)); (try simp only [put_rules]))
  (refine wpAnyH_take (i := 5) (v := ?_) rfl (by kernel_rfl) (by kernel_rfl) (by kernel_rfl) (fun _ _ _ h => h) (Or.inl ⟨by rfl, ?_⟩) (by assumption) ?_; rotate_left; (focus (intro w hSw; (try dsimp only at hSw); go_simp; (try with_reducible rfl); done)); (try simp only [put_rules]))
  (refine wpAnyH_take (i := 6) (v := ?_) rfl (by kernel_rfl) (by kernel_rfl) (by kernel_rfl) (fun _ _ _ h => h) (Or.inl ⟨by rfl, ?_⟩) (by assumption) ?_; rotate_left; (focus (intro w hSw; (try dsimp only at hSw); go_simp; (try with_reducible rfl); done)); (try simp only [put_rules]))
  (refine wpAnyH_take (i := 7) (v := ?_) rfl (by kernel_rfl) (by kernel_rfl) (by kernel_rfl) (fun _ _ _ h => h) (Or.inl ⟨by rfl, ?_⟩) (by assumption) ?_; rotate_left; (focus (intro w hSw; (try dsimp only at hSw); go_simp; (try with_reducible rfl); done)); (try simp only [put_rules]))
  (refine wpAnyH_take (i := 8) (v := ?_) rfl (by kernel_rfl) (by kernel_rfl) (by kernel_rfl) (fun _ _ _ h => h) (Or.inl ⟨by rfl, ?_⟩) (by assumption) ?_; rotate_left; (focus (intro w hSw; (try dsimp only at hSw); go_simp; (try with_reducible rfl); done)); (try simp only [put_rules]))
  (refine wpAnyH_take (i := 9) (v := ?_) rfl (by kernel_rfl) (by kernel_rfl) (by kernel_rfl) (fun _ _ _ h => h) (Or.inl ⟨by rfl, ?_⟩) (by assumption) ?_; rotate_left; (focus (intro w hSw; (try dsimp only at hSw); go_simp; (try with_reducible rfl); done)); (try simp only [put_rules]))
  (refine wpAnyH_take (i := 11) (v := ?_) rfl (by kernel_rfl) (by kernel_rfl) (by kernel_rfl) (fun _ _ _ h => h) (Or.inl ⟨by rfl, ?_⟩) (by assumption) ?_; rotate_left; (focus (intro w hSw; (try dsimp only at hSw); go_simp; (try with_reducible rfl); done)); (try simp only [put_rules]))
  (refine wpAnyH_ready (rs := [10]) (by kernel_rfl) (by simp) ?_; refine AllReadyH.cons rfl (fun K hK => ?_) AllReadyH.nil)
  go_simp
  go_at_call 25
  have S5 := S4.out.grow (bdr (bb _))
  refine (implIsValidLog_any d p c a _ (hEH.out.grow S5.below) (by omega) (by omega)).mono ?_
  obtain ⟨vd, hvd⟩ : ∃ vd, validB (bl d) (bl p) c = vd := ⟨_, rfl⟩
  rw [hvd]
  replace hvd := Lib.hid hvd
  rintro e w5 ⟨rfl, hb5⟩
  have S6 := S5.grow hb5
  have g00 := S6.cell (i := 1) rfl (o := 0) rfl
  have g01 := S6.cell (i := 1) rfl (o := 1) rfl
  have g02 := S6.cell (i := 1) rfl (o := 2) rfl
  have g10 := S6.cell (i := 0) rfl (o := 0) rfl
  have g11 := S6.cell (i := 0) rfl (o := 1) rfl
  have g12 := S6.cell (i := 0) rfl (o := 2) rfl
  have g20 := S6.cell (i := 3) rfl (o := 0) rfl
  have g21 := S6.cell (i := 3) rfl (o := 1) rfl
  have g22 := S6.cell (i := 3) rfl (o := 2) rfl
  have g30 := S6.cell (i := 2) rfl (o := 0) rfl
  have g31 := S6.cell (i := 2) rfl (o := 1) rfl
  replace S6 := Lib.hid S6
  clear S4 S5 hb5
  go_wp2_with fail
  refine hK.out _ _ ⟨g00, g01, g02, g10, g11, g12, g20, g21, g22, g30, g31⟩ (fun hS2 => ?_)
  clear hK hS g00 g01 g02 g10 g11 g12 g20 g21 g22 g30 g31
  (try simp only [put_rules])
  (refine wpAnyH_ready (rs := [12]) (by kernel_rfl) (by simp) ?_; refine AllReadyH.cons rfl (fun K hK => ?_) AllReadyH.nil)
  go_simp
  go_at_call 23
  refine (specIsValidLog_any d p c _ (by omega) (by omega)).mono ?_
  rw [hvd.out]
  rintro e w6 ⟨rfl, hb6⟩
  have S7 := S6.out.grow hb6
  have g00 := S7.cell (i := 1) rfl (o := 0) rfl
  have g01 := S7.cell (i := 1) rfl (o := 1) rfl
  have g02 := S7.cell (i := 1) rfl (o := 2) rfl
  have g10 := S7.cell (i := 0) rfl (o := 0) rfl
  have g11 := S7.cell (i := 0) rfl (o := 1) rfl
  have g12 := S7.cell (i := 0) rfl (o := 2) rfl
  have g20 := S7.cell (i := 3) rfl (o := 0) rfl
  have g21 := S7.cell (i := 3) rfl (o := 1) rfl
  have g22 := S7.cell (i := 3) rfl (o := 2) rfl
  have g30 := S7.cell (i := 2) rfl (o := 0) rfl
  have g31 := S7.cell (i := 2) rfl (o := 1) rfl
  replace S7 := Lib.hid S7
  clear S6 hb6
  go_wp2_with fail
  refine hK.out _ _ ⟨g00, g01, g02, g10, g11, g12, g20, g21, g22, g30, g31⟩ (fun hS => ?_)
  clear hK hS2 g00 g01 g02 g10 g11 g12 g20 g21 g22 g30 g31
  (try simp only [put_rules])
  (refine wpAnyH_take (i := 13) (v := ?_) rfl (by kernel_rfl) (by kernel_rfl) (by kernel_rfl) (fun _ _ _ h => h) (Or.inl ⟨by rfl, ?_⟩) (by assumption) ?_; rotate_left; (focus (intro w hSw; (try dsimp only at hSw); go_simp; (try with_reducible rfl); done)); (try simp only [put_rules]))
  (refine wpAnyH_take (i := 14) (v := ?_) rfl (by kernel_rfl) (by kernel_rfl) (by kernel_rfl) (fun _ _ _ h => h) (Or.inl ⟨by rfl, ?_⟩) (by assumption) ?_; rotate_left; (focus (intro w hSw; (try dsimp only at hSw); go_simp; (try with_reducible rfl); done)); (try simp only [put_rules]))
  (refine wpAnyH_take (i := 15) (v := ?_) rfl (by kernel_rfl) (by kernel_rfl) (by kernel_rfl) (fun _ _ _ h => h) (Or.inl ⟨by rfl, ?_⟩) (by assumption) ?_; rotate_left; (focus (intro w hSw; (try dsimp only at hSw); go_simp; (try with_reducible rfl); done)); (try simp only [put_rules]))
  (refine wpAnyH_take (i := 16) (v := ?_) rfl (by kernel_rfl) (by kernel_rfl) (by kernel_rfl) (fun _ _ _ h => h) (Or.inl ⟨by rfl, ?_⟩) (by assumption) ?_; rotate_left; (focus (intro w hSw; (try dsimp only at hSw); go_simp; (try with_reducible rfl); done)); (try simp only [put_rules]))
  (refine wpAnyH_take (i := 18) (v := ?_) rfl (by kernel_rfl) (by kernel_rfl) (by kernel_rfl) (fun _ _ _ h => h) (Or.inl ⟨by rfl, ?_⟩) (by assumption) ?_; rotate_left; (focus (intro w hSw; (try dsimp only at hSw); go_simp; (try with_reducible rfl); done)); (try simp only [put_rules]))
  (refine wpAnyH_ready (rs := [17]) (by kernel_rfl) (by simp) ?_; refine AllReadyH.cons rfl (fun K hK => ?_) AllReadyH.nil)
  go_simp
  go_at_call 52
  refine (implIsValidRecord_any q r _ (by omega) (by omega)).mono ?_
  obtain ⟨vr, hvr⟩ : ∃ vr, goodB (bl q) (bl r) = vr := ⟨_, rfl⟩
  rw [hvr]
  replace hvr := Lib.hid hvr
  rintro e w7 ⟨rfl, hb7⟩
  have S8 := S7.out.grow hb7
  have g00 := S8.cell (i := 1) rfl (o := 0) rfl
  have g01 := S8.cell (i := 1) rfl (o := 1) rfl
  have g02 := S8.cell (i := 1) rfl (o := 2) rfl
  have g10 := S8.cell (i := 0) rfl (o := 0) rfl
  have g11 := S8.cell (i := 0) rfl (o := 1) rfl
  have g12 := S8.cell (i := 0) rfl (o := 2) rfl
  have g20 := S8.cell (i := 3) rfl (o := 0) rfl
  have g21 := S8.cell (i := 3) rfl (o := 1) rfl
  have g22 := S8.cell (i := 3) rfl (o := 2) rfl
  have g30 := S8.cell (i := 2) rfl (o := 0) rfl
  have g31 := S8.cell (i := 2) rfl (o := 1) rfl
  replace S8 := Lib.hid S8
  clear S7 hb7
  go_wp2_with fail
  refine hK.out _ _ ⟨g00, g01, g02, g10, g11, g12, g20, g21, g22, g30, g31⟩ (fun hS2 => ?_)
  clear hK hS g00 g01 g02 g10 g11 g12 g20 g21 g22 g30 g31
  (try simp only [put_rules])
  (refine wpAnyH_ready (rs := [19]) (by kernel_rfl) (by simp) ?_; refine AllReadyH.cons rfl (fun K hK => ?_) AllReadyH.nil)
  go_simp
  go_at_call 53
  refine (specIsValidRecord_any q r _ (by omega) (by omega)).mono ?_
  rw [hvr.out]
  rintro e w8 ⟨rfl, hb8⟩
  have S9 := S8.out.grow hb8
  have g00 := S9.cell (i := 1) rfl (o := 0) rfl
  have g01 := S9.cell (i := 1) rfl (o := 1) rfl
  have g02 := S9.cell (i := 1) rfl (o := 2) rfl
  have g10 := S9.cell (i := 0) rfl (o := 0) rfl
  have g11 := S9.cell (i := 0) rfl (o := 1) rfl
  have g12 := S9.cell (i := 0) rfl (o := 2) rfl
  have g20 := S9.cell (i := 3) rfl (o := 0) rfl
  have g21 := S9.cell (i := 3) rfl (o := 1) rfl
  have g22 := S9.cell (i := 3) rfl (o := 2) rfl
  have g30 := S9.cell (i := 2) rfl (o := 0) rfl
  have g31 := S9.cell (i := 2) rfl (o := 1) rfl
  replace S9 := Lib.hid S9
  clear S8 hb8
  go_wp2_with fail
  refine hK.out _ _ ⟨g00, g01, g02, g10, g11, g12, g20, g21, g22, g30, g31⟩ (fun hS => ?_)
  clear hK hS2
  (try simp only [put_rules])
  (refine wpAnyH_take (i := 20) (v := ?_) rfl (by kernel_rfl) (by kernel_rfl) (by kernel_rfl) (fun _ _ _ h => h) (Or.inl ⟨by rfl, ?_⟩) (by assumption) ?_; rotate_left; (focus (intro w hSw; (try dsimp only at hSw); go_simp; (try with_reducible rfl); done)); (try simp only [put_rules]))
  (refine wpAnyH_take (i := 21) (v := ?_) rfl (by kernel_rfl) (by kernel_rfl) (by kernel_rfl) (fun _ _ _ h => h) (Or.inl ⟨by rfl, ?_⟩) (by assumption) ?_; rotate_left; (focus (intro w hSw; (try dsimp only at hSw); go_simp; (try with_reducible rfl); done)); (try simp only [put_rules]))
  (refine wpAnyH_done (by kernel_rfl) ?_ _)
  clear hS hvr
  have hB9 := S9.out.below
  by_cases hco : co = 0
  case neg =>
    obtain ⟨rfl, rfl⟩ := add_no had.out hco
    rw [ms_bl] at *
    have hco' : (co != 0) = true := by simpa using hco
    clear hco had
    go_wp2_with fail
    go_ret
    exact ⟨rfl, hB9⟩
  subst hco
  obtain ⟨hv1, hv2, hr1, hr2, rfl, hr3, hr4, hr5⟩ := add_ok had.out
  obtain ⟨rs, hrs⟩ : ∃ rs, recsB (bl d) (bl p) c = rs := ⟨_, rfl⟩
  rw [hrs] at hr1 hr2
  obtain ⟨n, hn⟩ : ∃ n, rs.length = n := ⟨_, rfl⟩
  rw [hn] at hr2
  subst hr2
  have hn60 : n ≤ 60 := by rw [← hn, ← hrs]; exact recsB_short _ _ _
  obtain ⟨Z, hZ⟩ : ∃ Z, ms (bl d ++ p2) = Z := ⟨_, rfl⟩
  have hbZ : bl d ++ p2 = bl Z := by rw [← hZ]; rfl
  rw [hbZ] at hr3 hr4 hr5
  rw [bl_length] at hr3 hr5
  have hp2 : p2.length ≤ 30000 := by have := congrArg List.length hbZ; simp only [List.length_append, bl_length] at this; omega
  have a1 := fun w' => run_add (P := Tryd.prog) w' d (ms p2) (by rw [ms_size]; omega)
  rw [bl_ms, hZ] at a1
  rw [hvd.out] at hv1
  replace hr1 := Lib.hid hr1
  replace hr3 := Lib.hid hr3
  replace hr4 := Lib.hid hr4
  replace hrs := Lib.hid hrs
  replace hn := Lib.hid hn
  replace hv2 := Lib.hid hv2
  replace hv1 := Lib.hid hv1
  replace hp2 := Lib.hid hp2
  clear hbZ hZ had
  go_wp2_with fail
  refine (implLogRecords_any d (ms p2) _ a _ (hEH.out.grow hB9) (by omega) (by rw [ms_size]; have := hp2.out; omega)).mono ?_
  rw [bl_ms, hr1.out, hv2.out]
  rintro e w10 ⟨v10, F10, rfl, hrw10, hn10, hF10, hb10⟩
  obtain ⟨A1, C1, hvv, -, -⟩ := Ty.row_len hrw10
  rw [List.length_append, hn.out] at hvv
  simp only [List.length_cons, List.length_nil, Nat.zero_add] at hvv
  subst hvv
  have S10 := S9.out.row_new hb10 hrw10 hn10 hF10
  clear S9 hrw10 hb10 hn10 hF10 hB9 g00 g01 g02 g10 g11 g12 g20 g21 g22 g30 g31
  have c0 := S10.cell (i := 4) rfl (o := 0) rfl
  have c1 := S10.cell (i := 4) rfl (o := 1) rfl
  have c2' := S10.cell (i := 4) rfl (o := 2) rfl
  have hB10 := S10.below
  replace S10 := Lib.hid S10
  go_wp2_with fail
  refine (implLogRecords_any d p _ a _ (hEH.out.grow hB10) (by omega) (by omega)).mono ?_
  rw [hrs.out, hvd.out, hv1.out]
  rintro e w11 ⟨v11, F11, rfl, hrw11, hn11, hF11, hb11⟩
  obtain ⟨A2, C2, hvv, -, -⟩ := Ty.row_len hrw11
  rw [hn.out] at hvv
  subst hvv
  have S11 := S10.out.row_new hb11 hrw11 hn11 hF11
  clear S10 hrw11 hb11 hn11 hF11 hB10 c0 c1 c2'
  have c0 := S11.cell (i := 3) rfl (o := 0) rfl
  have c1 := S11.cell (i := 3) rfl (o := 1) rfl
  have c2' := S11.cell (i := 3) rfl (o := 2) rfl
  have hB11 := S11.below
  replace S11 := Lib.hid S11
  go_wp2_with fail
  refine (implRecoverLog_any Z a _ (hEH.out.grow hB11) (by omega)).mono ?_
  rw [hr3.out, ms_bl]
  rintro e w12 ⟨rfl, hb12⟩
  have S12 := (S11.out.grow hb12).alloc_box #[.string Z, .string ⟨#[]⟩, .int .i64 ((n : Int) + 1)] 31
  clear S11 hb12 hB11 c0 c1 c2'
  have c0 := S12.cell (i := 4) rfl (o := 0) rfl
  have c1 := S12.cell (i := 4) rfl (o := 1) rfl
  have c2' := S12.cell (i := 4) rfl (o := 2) rfl
  have hB12 := S12.below
  replace S12 := Lib.hid S12
  go_wp2_with fail
  refine (implSyncLog_any d (ms p2) _ a _ (hEH.out.grow hB12) (by omega) (by rw [ms_size]; have := hp2.out; omega)).mono ?_
  rw [bl_ms, hr4.out, ms_bl]
  rintro e w13 ⟨rfl, hb13⟩
  have S13 := (S12.out.grow hb13).alloc_box #[.string Z, .string ⟨#[]⟩, .int .i64 ((n : Int) + 1)] 31
  clear S12 hb13 hB12 c0 c1 c2'
  have c0 := S13.cell (i := 5) rfl (o := 0) rfl
  have c1 := S13.cell (i := 5) rfl (o := 1) rfl
  have c2' := S13.cell (i := 5) rfl (o := 2) rfl
  obtain ⟨G1, g1⟩ := S13.row_at (i := 3) rfl
  obtain ⟨G2, g2⟩ := S13.row_at (i := 2) rfl
  obtain ⟨a1', c1'', e1, -, -, -, x1⟩ := row_rec g1
  obtain ⟨a2', c2'', e2, -, -, -, x2⟩ := row_rec g2
  simp only [Value.slice.injEq] at e1 e2
  obtain ⟨rfl, -, rfl⟩ := e1
  obtain ⟨rfl, -, rfl⟩ := e2
  clear g1 g2
  replace x1 := Lib.hid x1
  replace x2 := Lib.hid x2
  replace S13 := Lib.hid S13
  go_wp2_with fail
  generalize hW : World.alloc w13 _ = W at *
  clear hW c0 c1 c2'
  go_loopw [18] (fun z wr => ∃ k : Nat, k ≤ n ∧ z = .int .i64 k ∧ Below W.heap.size W wr) (fun z _ => n - (intOf z).toNat)
  case atStart => exact ⟨0, Nat.zero_le _, rfl, (by repeat (first | exact bb _ | assumption | refine bal ?_ _ | refine bdr ?_ | refine bdn ?_ _ | refine bst ?_ (by simp <;> omega) _ | refine btr ?_ (by assumption)))⟩
  case round =>
    obtain ⟨k, hk, rfl, hB⟩ := hrel
    have hL1 : k < (rs ++ [(bl q, bl r)]).length := by rw [List.length_append, hn.out, List.length_singleton]; omega
    rcases x1.out with ⟨h0, _⟩ | ⟨_, b1, o1, rfl, rfl, hx⟩
    · exact absurd h0 (by simp)
    have k0 := ((hx k hL1).1.keep (hB.block b1 (hx k hL1).1.lt)).1
    have k1 := ((hx k hL1).2.keep (hB.block b1 (hx k hL1).2.lt)).1
    clear hx
    by_cases hlt : k < n
    · have hlt' : (k : Int) < (n : Int) := by omega
      have hlt1' : (k : Int) < (n : Int) + 1 := by omega
      have hL2 : k < rs.length := by rw [hn.out]; exact hlt
      rcases x2.out with ⟨h0, _⟩ | ⟨_, b2, o2, rfl, rfl, hy⟩
      · exfalso; rw [h0] at hL2; exact absurd hL2 (by simp)
      have k2 := ((hy k hL2).1.keep (hB.block b2 (hy k hL2).1.lt)).1
      have k3 := ((hy k hL2).2.keep (hB.block b2 (hy k hL2).2.lt)).1
      rw [List.getElem_append_left hL2] at k0 k1
      generalize rs[k] = rr at k0 k1 k2 k3
      clear hy hL1 hL2
      go_wp2_with fail
      go_quiet (fail)
      go_wp2_with fail
      go_roundw
      case rel => exact ⟨k + 1, by omega, by go_num, (by repeat (first | exact bb _ | assumption | refine bal ?_ _ | refine bdr ?_ | refine bdn ?_ _ | refine bst ?_ (by simp <;> omega) _ | refine btr ?_ (by assumption)))⟩
      case measure => simp [intOf]; omega
    · obtain rfl : n = k := by omega
      have hge : ¬ (n : Int) < (n : Int) := by omega
      have hlt1' : (n : Int) < (n : Int) + 1 := by omega
      have hg : (rs ++ [(bl q, bl r)])[n]'hL1 = (bl q, bl r) := by
        rw [List.getElem_append_right (by rw [hn.out]; omega)]; simp
      rw [hg] at k0 k1
      simp only [ms_bl] at k0 k1
      clear hg hL1
      have S14 := S13.out.grow hB
      have m0 := S14.cell (i := 5) rfl (o := 0) rfl
      have m1 := S14.cell (i := 5) rfl (o := 1) rfl
      have m2 := S14.cell (i := 5) rfl (o := 2) rfl
      have e0 := S14.cell (i := 6) rfl (o := 0) rfl
      have e1 := S14.cell (i := 6) rfl (o := 1) rfl
      have s0 := S14.cell (i := 0) rfl (o := 0) rfl
      have s1 := S14.cell (i := 0) rfl (o := 1) rfl
      have s2 := S14.cell (i := 0) rfl (o := 2) rfl
      have r0 := S14.cell (i := 1) rfl (o := 0) rfl
      have r1 := S14.cell (i := 1) rfl (o := 1) rfl
      have r2 := S14.cell (i := 1) rfl (o := 2) rfl
      replace S14 := Lib.hid S14
      go_wp2_with fail
      refine wp_region_tail_lit (S := (fun w' => w'.cell? ⟨b1, o1 + n * 2, none⟩ = some (.string q) ∧ w'.cell? ⟨b1, o1 + n * 2 + 1, none⟩ = some (.string r) ∧ w'.cell? ⟨w2.heap.size + 1, 0, none⟩ = some (.string q) ∧ w'.cell? ⟨w2.heap.size + 1, 1, none⟩ = some (.string r) ∧ w'.cell? ⟨w3.heap.size, 0, none⟩ = some (.string d) ∧ w'.cell? ⟨w3.heap.size, 1, none⟩ = some (.string (ms p2)) ∧ w'.cell? ⟨w3.heap.size, 2, none⟩ = some (.int .i64 ((n : Int) + 1)) ∧ w'.cell? ⟨w13.heap.size, 0, none⟩ = some (.string Z) ∧ w'.cell? ⟨w13.heap.size, 1, none⟩ = some (.string ⟨#[]⟩) ∧ w'.cell? ⟨w13.heap.size, 2, none⟩ = some (.int .i64 ((n : Int) + 1)) ∧ w'.cell? ⟨w12.heap.size, 0, none⟩ = some (.string Z) ∧ w'.cell? ⟨w12.heap.size, 1, none⟩ = some (.string ⟨#[]⟩) ∧ w'.cell? ⟨w12.heap.size, 2, none⟩ = some (.int .i64 ((n : Int) + 1)))) 32 [false, false, false, false, false, false, false, false, false, false, false, false, false, false, false, false, false, false, false, false, false, false, false, false, false, false, false, false, false, false, false, false, false] (by kernel_rfl) (by kernel_rfl) (by kernel_rfl) ?_ ?_
      · exact ⟨k0, k1, e0, e1, m0, m1, m2, s0, s1, s2, r0, r1, r2⟩
      intro hS
      clear k0 k1 e0 e1 m0 m1 m2 s0 s1 s2 r0 r1 r2
      (refine walkT_take (i := 0) (v := ?_) rfl (by kernel_rfl) (by decide) (by kernel_rfl) (by kernel_rfl) (fun _ _ _ h => h) (Or.inl ⟨by rfl, ?_⟩) (by assumption) ?_; rotate_left; (focus (intro w hSw; (try dsimp only at hSw); go_simp; (try with_reducible rfl); done)); (try simp only [put_rules]))
      (refine walkT_take (i := 1) (v := ?_) rfl (by kernel_rfl) (by decide) (by kernel_rfl) (by kernel_rfl) (fun _ _ _ h => h) (Or.inl ⟨by rfl, ?_⟩) (by assumption) ?_; rotate_left; (focus (intro w hSw; (try dsimp only at hSw); go_simp; (try with_reducible rfl); done)); (try simp only [put_rules]))
      (refine walkT_take (i := 2) (v := ?_) rfl (by kernel_rfl) (by decide) (by kernel_rfl) (by kernel_rfl) (fun _ _ _ h => h) (Or.inl ⟨by rfl, ?_⟩) (by assumption) ?_; rotate_left; (focus (intro w hSw; (try dsimp only at hSw); go_simp; (try with_reducible rfl); done)); (try simp only [put_rules]))
      (refine walkT_take (i := 3) (v := ?_) rfl (by kernel_rfl) (by decide) (by kernel_rfl) (by kernel_rfl) (fun _ _ _ h => h) (Or.inl ⟨by rfl, ?_⟩) (by assumption) ?_; rotate_left; (focus (intro w hSw; (try dsimp only at hSw); go_simp; (try with_reducible rfl); done)); (try simp only [put_rules]))
      (refine walkT_take (i := 4) (v := ?_) rfl (by kernel_rfl) (by decide) (by kernel_rfl) (by kernel_rfl) (fun _ _ _ h => h) (Or.inl ⟨by rfl, ?_⟩) (by assumption) ?_; rotate_left; (focus (intro w hSw; (try dsimp only at hSw); go_simp; (try with_reducible rfl); done)); (try simp only [put_rules]))
      (refine walkT_take (i := 5) (v := ?_) rfl (by kernel_rfl) (by decide) (by kernel_rfl) (by kernel_rfl) (fun _ _ _ h => h) (Or.inl ⟨by rfl, ?_⟩) (by assumption) ?_; rotate_left; (focus (intro w hSw; (try dsimp only at hSw); go_simp; (try with_reducible rfl); done)); (try simp only [put_rules]))
      (refine walkT_take (i := 6) (v := ?_) rfl (by kernel_rfl) (by decide) (by kernel_rfl) (by kernel_rfl) (fun _ _ _ h => h) (Or.inl ⟨by rfl, ?_⟩) (by assumption) ?_; rotate_left; (focus (intro w hSw; (try dsimp only at hSw); go_simp; (try with_reducible rfl); done)); (try simp only [put_rules]))
      (refine walkT_take (i := 7) (v := ?_) rfl (by kernel_rfl) (by decide) (by kernel_rfl) (by kernel_rfl) (fun _ _ _ h => h) (Or.inl ⟨by rfl, ?_⟩) (by assumption) ?_; rotate_left; (focus (intro w hSw; (try dsimp only at hSw); go_simp; (try with_reducible rfl); done)); (try simp only [put_rules]))
      (refine walkT_take (i := 8) (v := ?_) rfl (by kernel_rfl) (by decide) (by kernel_rfl) (by kernel_rfl) (fun _ _ _ h => h) (Or.inl ⟨by rfl, ?_⟩) (by assumption) ?_; rotate_left; (focus (intro w hSw; (try dsimp only at hSw); go_simp; (try with_reducible rfl); done)); (try simp only [put_rules]))
      (refine walkT_take (i := 9) (v := ?_) rfl (by kernel_rfl) (by decide) (by kernel_rfl) (by kernel_rfl) (fun _ _ _ h => h) (Or.inl ⟨by rfl, ?_⟩) (by assumption) ?_; rotate_left; (focus (intro w hSw; (try dsimp only at hSw); go_simp; (try with_reducible rfl); done)); (try simp only [put_rules]))
      (refine walkT_take (i := 10) (v := ?_) rfl (by kernel_rfl) (by decide) (by kernel_rfl) (by kernel_rfl) (fun _ _ _ h => h) (Or.inl ⟨by rfl, ?_⟩) (by assumption) ?_; rotate_left; (focus (intro w hSw; (try dsimp only at hSw); go_simp; (try with_reducible rfl); done)); (try simp only [put_rules]))
      (refine walkT_take (i := 11) (v := ?_) rfl (by kernel_rfl) (by decide) (by kernel_rfl) (by kernel_rfl) (fun _ _ _ h => h) (Or.inl ⟨by rfl, ?_⟩) (by assumption) ?_; rotate_left; (focus (intro w hSw; (try dsimp only at hSw); go_simp; (try with_reducible rfl); done)); (try simp only [put_rules]))
      (refine walkT_take (i := 12) (v := ?_) rfl (by kernel_rfl) (by decide) (by kernel_rfl) (by kernel_rfl) (fun _ _ _ h => h) (Or.inl ⟨by rfl, ?_⟩) (by assumption) ?_; rotate_left; (focus (intro w hSw; (try dsimp only at hSw); go_simp; (try with_reducible rfl); done)); (try simp only [put_rules]))
      (refine walkT_take (i := 13) (v := ?_) rfl (by kernel_rfl) (by decide) (by kernel_rfl) (by kernel_rfl) (fun _ _ _ h => h) (Or.inl ⟨by rfl, ?_⟩) (by assumption) ?_; rotate_left; (focus (intro w hSw; (try dsimp only at hSw); go_simp; (try with_reducible rfl); done)); (try simp only [put_rules]))
      (refine walkT_take (i := 14) (v := ?_) rfl (by kernel_rfl) (by decide) (by kernel_rfl) (by kernel_rfl) (fun _ _ _ h => h) (Or.inl ⟨by rfl, ?_⟩) (by assumption) ?_; rotate_left; (focus (intro w hSw; (try dsimp only at hSw); go_simp; (try with_reducible rfl); done)); (try simp only [put_rules]))
      (refine walkT_take (i := 15) (v := ?_) rfl (by kernel_rfl) (by decide) (by kernel_rfl) (by kernel_rfl) (fun _ _ _ h => h) (Or.inl ⟨by rfl, ?_⟩) (by assumption) ?_; rotate_left; (focus (intro w hSw; (try dsimp only at hSw); go_simp; (try with_reducible rfl); done)); (try simp only [put_rules]))
      (refine walkT_take (i := 16) (v := ?_) rfl (by kernel_rfl) (by decide) (by kernel_rfl) (by kernel_rfl) (fun _ _ _ h => h) (Or.inl ⟨by rfl, ?_⟩) (by assumption) ?_; rotate_left; (focus (intro w hSw; (try dsimp only at hSw); go_simp; (try with_reducible rfl); done)); (try simp only [put_rules]))
      (refine walkT_take (i := 17) (v := ?_) rfl (by kernel_rfl) (by decide) (by kernel_rfl) (by kernel_rfl) (fun _ _ _ h => h) (Or.inl ⟨by rfl, ?_⟩) (by assumption) ?_; rotate_left; (focus (intro w hSw; (try dsimp only at hSw); go_simp; (try with_reducible rfl); done)); (try simp only [put_rules]))
      (refine walkT_take (i := 18) (v := ?_) rfl (by kernel_rfl) (by decide) (by kernel_rfl) (by kernel_rfl) (fun _ _ _ h => h) (Or.inl ⟨by rfl, ?_⟩) (by assumption) ?_; rotate_left; (focus (intro w hSw; (try dsimp only at hSw); go_simp; (try with_reducible rfl); done)); (try simp only [put_rules]))
      (refine walkT_take (i := 19) (v := ?_) rfl (by kernel_rfl) (by decide) (by kernel_rfl) (by kernel_rfl) (fun _ _ _ h => h) (Or.inl ⟨by rfl, ?_⟩) (by assumption) ?_; rotate_left; (focus (intro w hSw; (try dsimp only at hSw); go_simp; (try with_reducible rfl); done)); (try simp only [put_rules]))
      (refine walkT_take (i := 20) (v := ?_) rfl (by kernel_rfl) (by decide) (by kernel_rfl) (by kernel_rfl) (fun _ _ _ h => h) (Or.inl ⟨by rfl, ?_⟩) (by assumption) ?_; rotate_left; (focus (intro w hSw; (try dsimp only at hSw); go_simp; (try with_reducible rfl); done)); (try simp only [put_rules]))
      (refine walkT_take (i := 21) (v := ?_) rfl (by kernel_rfl) (by decide) (by kernel_rfl) (by kernel_rfl) (fun _ _ _ h => h) (Or.inl ⟨by rfl, ?_⟩) (by assumption) ?_; rotate_left; (focus (intro w hSw; (try dsimp only at hSw); go_simp; (try with_reducible rfl); done)); (try simp only [put_rules]))
      (refine walkT_take (i := 22) (v := ?_) rfl (by kernel_rfl) (by decide) (by kernel_rfl) (by kernel_rfl) (fun _ _ _ h => h) (Or.inl ⟨by rfl, ?_⟩) (by assumption) ?_; rotate_left; (focus (intro w hSw; (try dsimp only at hSw); go_simp; (try with_reducible rfl); done)); (try simp only [put_rules]))
      (refine walkT_take (i := 23) (v := ?_) rfl (by kernel_rfl) (by decide) (by kernel_rfl) (by kernel_rfl) (fun _ _ _ h => h) (Or.inl ⟨by rfl, ?_⟩) (by assumption) ?_; rotate_left; (focus (intro w hSw; (try dsimp only at hSw); go_simp; (try with_reducible rfl); done)); (try simp only [put_rules]))
      (refine walkT_take (i := 24) (v := ?_) rfl (by kernel_rfl) (by decide) (by kernel_rfl) (by kernel_rfl) (fun _ _ _ h => h) (Or.inl ⟨by rfl, ?_⟩) (by assumption) ?_; rotate_left; (focus (intro w hSw; (try dsimp only at hSw); go_simp; (try with_reducible rfl); done)); (try simp only [put_rules]))
      (refine walkT_take (i := 25) (v := ?_) rfl (by kernel_rfl) (by decide) (by kernel_rfl) (by kernel_rfl) (fun _ _ _ h => h) (Or.inl ⟨by rfl, ?_⟩) (by assumption) ?_; rotate_left; (focus (intro w hSw; (try dsimp only at hSw); go_simp; (try with_reducible rfl); done)); (try simp only [put_rules]))
      (refine walkT_take (i := 26) (v := ?_) rfl (by kernel_rfl) (by decide) (by kernel_rfl) (by kernel_rfl) (fun _ _ _ h => h) (Or.inl ⟨by rfl, ?_⟩) (by assumption) ?_; rotate_left; (focus (intro w hSw; (try dsimp only at hSw); go_simp; (try with_reducible rfl); done)); (try simp only [put_rules]))
      (refine walkT_take (i := 27) (v := ?_) rfl (by kernel_rfl) (by decide) (by kernel_rfl) (by kernel_rfl) (fun _ _ _ h => h) (Or.inl ⟨by rfl, ?_⟩) (by assumption) ?_; rotate_left; (focus (intro w hSw; (try dsimp only at hSw); go_simp; (try with_reducible rfl); done)); (try simp only [put_rules]))
      (refine walkT_take (i := 28) (v := ?_) rfl (by kernel_rfl) (by decide) (by kernel_rfl) (by kernel_rfl) (fun _ _ _ h => h) (Or.inl ⟨by rfl, ?_⟩) (by assumption) ?_; rotate_left; (focus (intro w hSw; (try dsimp only at hSw); go_simp; (try with_reducible rfl); done)); (try simp only [put_rules]))
      (refine walkT_take (i := 29) (v := ?_) rfl (by kernel_rfl) (by decide) (by kernel_rfl) (by kernel_rfl) (fun _ _ _ h => h) (Or.inl ⟨by rfl, ?_⟩) (by assumption) ?_; rotate_left; (focus (intro w hSw; (try dsimp only at hSw); go_simp; (try with_reducible rfl); done)); (try simp only [put_rules]))
      (refine walkT_ready (rs := [30]) (by kernel_rfl) (by simp) (by decide) ?_; refine AllT.cons rfl (fun K hK => ?_) AllT.nil)
      go_simp
      go_at_call 25
      have S15 := S14.out.grow (bdr (bb _))
      refine (implIsValidLog_any d (ms p2) _ a _ (hEH.out.grow S15.below) (by omega) (by rw [ms_size]; have := hp2.out; omega)).mono ?_
      rw [bl_ms, hv2.out]
      rintro e w15 ⟨rfl, hb15⟩
      have S16 := S15.grow hb15
      have hB16 := Lib.hid S16.below
      have cb : ∀ {b o : Nat} {v : Value}, wr.drew.cell? ⟨b, o, none⟩ = some v → w15.cell? ⟨b, o, none⟩ = some v := fun h => (hb15.cell (World.block_lt_of_cell? _ _ h)).trans h
      obtain ⟨h0, h1, h2, h3, h4, h5, h6, h7, h8, h9, h10, h11, h12⟩ := hS
      have hS' := And.intro (cb h0) (And.intro (cb h1) (And.intro (cb h2) (And.intro (cb h3) (And.intro (cb h4) (And.intro (cb h5) (And.intro (cb h6) (And.intro (cb h7) (And.intro (cb h8) (And.intro (cb h9) (And.intro (cb h10) (And.intro (cb h11) (cb h12))))))))))))
      clear cb h0 h1 h2 h3 h4 h5 h6 h7 h8 h9 h10 h11 h12 S14 S15 S16 hb15
      go_wp2_with fail
      refine hK.out _ _ hS' (fun hS2 => ?_)
      clear hK hS'
      (try simp only [put_rules])
      (refine walkT_take (i := 31) (v := ?_) rfl (by kernel_rfl) (by decide) (by kernel_rfl) (by kernel_rfl) (fun _ _ _ h => h) (Or.inl ⟨by rfl, ?_⟩) (by assumption) ?_; rotate_left; (focus (intro w hSw; (try dsimp only at hSw); go_simp; (try with_reducible rfl); done)); (try simp only [put_rules]))
      (refine walkT_done (by kernel_rfl) ?_)
      simp only [List.drop_succ_cons, List.drop_zero]
      go_wp2_with fail
      go_ret
      exact ⟨rfl, hB16.out⟩
end Go.Proofs.YtfcekfomhpmgpaaDoor
