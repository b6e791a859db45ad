/- Lemmas and contracts for a law, put together out of several texts: CyE CyF CuJ AsJ AsK CuK SdM CtO. -/
import Derived.Test.YtahbepajeplcmaaGreatMg9
import Derived.Test.YtahbepajeplcmaaGreatMg10
import Derived.Test.YtahbepajeplcmaaGreatMg5
import Derived.Test.YtahbepajeplcmaaGreatMg7
import Derived.Test.YtahbepajeplcmaaGreatMg8
/- Contract: a drawn Cnf. -/
namespace Go.Proofs.YtahbepajeplcmaaGreat
open Go.RowKit

set_option maxRecDepth 100000 in
set_option maxHeartbeats 16000000 in
theorem cur_cnf (A g : Nat) (ca : Option Addr) (cl cc : Nat) (w : World) (h : CurIs A g ca cl cc w) (hA : A ≤ 30000000) :
    Calls Tryz.prog 67 #[.pointer (some ⟨g, 0, none⟩)] w (CnfPost (A + 2000) g ca cl cc w) := by
  have hg := h.lt
  have S0 := Lib.hid ((CS.start h).alloc_box #[.int .i64 0, .slice none 0 0] 28)
  obtain ⟨i1, hi, hz0, hz1, hz2⟩ := info_parts infoRow
  clear h
  have hcur := Lib.hid S0.out.cur
  go_enter Tryz.func67, Tryz.ntmps67
  go_wp2_with fail
  refine (cur_one 4 A g ca cl cc _ hcur.out (by omega) (by omega)).mono ?_
  rintro e w1 ⟨_, ⟨q, rfl⟩, rfl, hi1, hc1⟩
  have S1 := Lib.hid (S0.out.turn hi1 hc1)
  clear S0 hcur hi1 hc1
  cases q
  case true =>
    have hh := Lib.hid (cur_hard _ g ca cl cc _ S1.out.cur (by omega))
    go_wp2_with fail
    refine hh.out.mono ?_
    rintro e w2 ⟨vars, B, cap, cs, ys, rfl, hv0, hv1, hyl, HC, T2⟩
    replace HC := Lib.hid HC
    have S2 := S1.out.comp T2
    have r0 := S2.cell (i := 1) rfl (o := 0) rfl
    have r1 := S2.cell (i := 1) rfl (o := 1) rfl
    have f0 := S2.frozen (i := 1) rfl 0
    have f1 := S2.frozen (i := 1) rfl 1
    have SF := (S2.store (i := 1) rfl 0 (.int .i64 vars)).store (i := 1) rfl 1 (.slice B ys.length cap)
    have j0 := SF.cell (i := 1) rfl (o := 0) rfl
    have j1 := SF.cell (i := 1) rfl (o := 1) rfl
    have hR := Lib.hid ((CS.front (qs := [_]) SF).mono (show _ ≤ A + 2000 by omega))
    clear SF S2 S1 T2 hh
    go_wp2_with fail
    exact bodyPost_ret (v := .agg #[.int .i64 vars, .slice B ys.length cap]) (by simp [results, Tryz.results67, go_sem, j0, j1]) rfl ⟨vars, B, cap, cs, ys, rfl, by omega, by omega, by omega, HC.out, hR.out⟩
  case false =>
    have hgl : g < w1.heap.size := S1.out.cur.lt
    have hcall := Lib.hid (cur_among (2) 5 w1.heap.size 0 5 5 _ g ca cl cc (w1.alloc (.cells #[.int .i64 2, .int .i64 3, .int .i64 3, .int .i64 4, .int .i64 5] 3)) (S1.out.cur.grow (bal (bb _) _)) (by omega) (by decide) (by decide) (ints_new rfl fun j hj => by
      match j, hj with
      | 0, _ => exact ⟨_, rfl, by decide, by decide⟩
      | 1, _ => exact ⟨_, rfl, by decide, by decide⟩
      | 2, _ => exact ⟨_, rfl, by decide, by decide⟩
      | 3, _ => exact ⟨_, rfl, by decide, by decide⟩
      | 4, _ => exact ⟨_, rfl, by decide, by decide⟩
      ) (by omega))
    go_wp2_with fail
    refine hcall.out.mono ?_
    rintro e w2 ⟨_, ⟨vars, hva0, hva1, rfl⟩, rfl, hi2, hc2⟩
    have S2 := (S1.out.alloc _).turn hi2 hc2
    have S3 := (S2.rows_made Ty.int 35).alloc_box #[.int .i64 vars, .slice (some ⟨w2.heap.size, 0, none⟩) 0 0] 28
    simp only [World.size_alloc] at S3
    obtain ⟨fb, hfb⟩ : ∃ fb, w2.heap.size + 1 = fb := ⟨_, rfl⟩
    rw [hfb] at S3
    have S4 : Hid (CS w g ca cl cc (A + 2 + 2) _ [Rows Ty.int 35 (.slice (some ⟨w2.heap.size, 0, none⟩) ([] : List (List Int)).length 0) [] ([] : List (List Int)), Box fb 28 #[.int .i64 vars, .slice (some ⟨w2.heap.size, 0, none⟩) ([] : List (List Int)).length 0], Box w.heap.size 28 #[.int .i64 0, .slice none 0 0]]) := S3.swap
    have hcur := Lib.hid S4.out.cur
    clear S1 S2 S3 hi2 hc2 hcall
    go_wp2_with fail
    refine (cur_pick_at (lo := 0) (hi := 9) hcur.out (by omega) (by omega) (by omega) (by omega) (by omega)).mono ?_
    rintro e w3 ⟨_, ⟨x, hx0, hx1, rfl⟩, rfl, hi3, hc3⟩
    obtain ⟨m0, rfl⟩ := Int.eq_ofNat_of_zero_le hx0
    have hm9 : m0 ≤ 9 := by omega
    have S5 := Lib.hid ((S4.out.turn hi3 hc3).mono (show _ ≤ A + 20 + 100 * (9 - m0) by omega))
    clear S4 hcur hi3 hc3 hx0 hx1
    go_wp2_with fail
    go_loopw [4] (fun vv wr => ∃ (m : Nat) (B : Option Addr) (cap : Nat) (cs : List Value) (ys : List (List Int)), m ≤ 9 ∧ vv = .int .i64 m ∧ ys.length + m ≤ 9 ∧ Hid (SmallR 13 ys) ∧ Hid (CS w g ca cl cc (A + 20 + 100 * (9 - m)) wr [Rows Ty.int 35 (.slice B ys.length cap) cs ys, Box fb 28 #[.int .i64 vars, .slice B ys.length cap], Box w.heap.size 28 #[.int .i64 0, .slice none 0 0]])) (fun vv _ => (intOf vv).toNat)
    case atStart => exact ⟨m0, _, _, [], [], hm9, rfl, by simpa using hm9, (fun c hc => by simp at hc), S5⟩
    case round =>
      clear S5
      obtain ⟨m, B, cap, cs, ys, hm2, rfl, hyl, HC, HS⟩ := hrel
      by_cases hm : 0 < m
      · have e0 : decide ((0 : Int) < (m : Int)) = true := decide_eq_true (by omega)
        have hmw : IntKind.i64.wrap ((m : Int) - 1) = ((m - 1 : Nat) : Int) := by rw [IntWalk.i64_in _ (by omega)]; omega
        as_aux_lemma =>
          have l0 := HS.out.cell (i := 1) rfl (o := 0) rfl
          have l1 := HS.out.cell (i := 1) rfl (o := 1) rfl
          go_wp2_with fail
          refine wp_region_tail_lit (S := (fun w' => w'.cell? ⟨fb, 0, none⟩ = some (.int .i64 vars) ∧ w'.cell? ⟨fb, 1, none⟩ = some (.slice B ys.length cap))) 7 [false, false, false, false, false, false, false, false, false, false] (by kernel_rfl) (by kernel_rfl) (by kernel_rfl) ?_ ?_
          · exact ⟨l0, l1⟩
          intro hSc
          (refine walkT_take (i := 0) (v := ?_) rfl (by kernel_rfl) (by decide) (by kernel_rfl) (by kernel_rfl) (fun _ _ _ h => h) (Or.inl ⟨by rfl, ?_⟩) (by assumption) ?_; rotate_left; (focus (intro w hSw; (try dsimp only at hSw); go_simp; (try with_reducible rfl); done)); (try simp only [put_rules]))
          (refine walkT_take (i := 1) (v := ?_) rfl (by kernel_rfl) (by decide) (by kernel_rfl) (by kernel_rfl) (fun _ _ _ h => h) (Or.inl ⟨by rfl, ?_⟩) (by assumption) ?_; rotate_left; (focus (intro w hSw; (try dsimp only at hSw); go_simp; (try with_reducible rfl); done)); (try simp only [put_rules]))
          (refine walkT_take (i := 2) (v := ?_) rfl (by kernel_rfl) (by decide) (by kernel_rfl) (by kernel_rfl) (fun _ _ _ h => h) (Or.inl ⟨by rfl, ?_⟩) (by assumption) ?_; rotate_left; (focus (intro w hSw; (try dsimp only at hSw); go_simp; (try with_reducible rfl); done)); (try simp only [put_rules]))
          (refine walkT_take (i := 3) (v := ?_) rfl (by kernel_rfl) (by decide) (by kernel_rfl) (by kernel_rfl) (fun _ _ _ h => h) (Or.inl ⟨by rfl, ?_⟩) (by assumption) ?_; rotate_left; (focus (intro w hSw; (try dsimp only at hSw); go_simp; (try with_reducible rfl); done)); (try simp only [put_rules]))
          (refine walkT_take (i := 4) (v := ?_) rfl (by kernel_rfl) (by decide) (by kernel_rfl) (by kernel_rfl) (fun _ _ _ h => h) (Or.inl ⟨by rfl, ?_⟩) (by assumption) ?_; rotate_left; (focus (intro w hSw; (try dsimp only at hSw); go_simp; (try with_reducible rfl); done)); (try simp only [put_rules]))
          (refine walkT_ready (rs := [5]) (by kernel_rfl) (by simp) (by decide) ?_; refine AllT.cons rfl (fun K hK => ?_) AllT.nil)
          go_simp
          go_at_call 75
          have S3 := HS.out.drew
          have hcall := Lib.hid (cur_clause vars (by omega) _ g ca cl cc _ S3.cur (by omega))
          refine hcall.out.mono ?_
          rintro e w3 ⟨v, c, rfl, ho, hl, hW, hi3, hc3⟩
          have S4 := S3.comp (row_cs S3.cur hi3 hc3 ho)
          obtain ⟨B2, cap2, rfl⟩ := own_slice ho
          have S5 := Lib.hid (CS.own_to_row (ps := _) S4 (hW.i64 (by decide)))
          clear hcall S3 S4 HS l0 l1 hi3 hc3 ho
          go_wp2_with fail
          refine hK.out _ _ ⟨S5.out.cell (i := 2) rfl (o := 0) rfl, S5.out.cell (i := 2) rfl (o := 1) rfl⟩ (fun hS2 => ?_)
          clear hK hSc
          (try simp only [put_rules])
          (refine walkT_ready (rs := [6]) (by kernel_rfl) (by simp) (by decide) ?_; refine AllT.cons rfl (fun K hK => ?_) AllT.nil)
          go_simp
          have hrows := Lib.hid ((S5.out.rows (i := 1) rfl).alloc (.cells #[.slice B2 c.length cap2] 35))
          have kB : (w3.alloc (.cells #[.slice B2 c.length cap2] 35)).cell? ⟨w3.heap.size, 0, none⟩ = some (.slice B2 c.length cap2) := cell_of_row _ _ _ _ _ _ (heap_alloc_new w3 _)
          have S6 := Lib.hid (S5.out.alloc (.cells #[.slice B2 c.length cap2] 35))
          refine hK.out _ _ ⟨S6.out.cell (i := 2) rfl (o := 0) rfl, S6.out.cell (i := 2) rfl (o := 1) rfl⟩ (fun hS3 => ?_)
          clear hK hS2
          (try simp only [put_rules])
          (refine walkT_done (by kernel_rfl) ?_)
          simp only [List.drop_succ_cons, List.drop_zero]
          (refine wpList_append_src rfl _ _ rfl Tryz.underlying26 hi hz0 hz1 hz2 rfl (by decide) _ ys.length _ rfl hrows.out _ 1 1 [.slice B2 c.length cap2] rfl (Src.one kB) (by simp [Value.oneCell']) (by unfold maxLen; omega) (by omega) ?_; intro vY wY hownY hgY hatY)
          have S7 := S5.out.rows_push (bal (bb _) _) hownY hgY hatY
          obtain ⟨aY, cY, rfl⟩ := own_slice hownY
          have b1 := S7.cell (i := 1) rfl (o := 1) rfl
          have q1 := S7.frozen (i := 1) rfl 1
          have hlen : ys.length + 1 = (ys ++ [c]).length := by simp
          have S8 : Hid (CS w g ca cl cc (A + 20 + 100 * (9 - (m - 1))) (wY.setCell ⟨fb, 1, none⟩ (.slice aY (ys.length + 1) cY)) [Rows Ty.int 35 (.slice aY (ys ++ [c]).length cY) (cs ++ [.slice B2 c.length cap2]) (ys ++ [c]), Box fb 28 #[.int .i64 vars, .slice aY (ys ++ [c]).length cY], Box w.heap.size 28 #[.int .i64 0, .slice none 0 0]]) := by
            unfold Hid; rw [← hlen]
            have := (S7.store (i := 1) rfl 1 (.slice aY (ys.length + 1) cY)).mono (show _ ≤ A + 20 + 100 * (9 - (m - 1)) by omega)
            rw [hlen] at this ⊢
            exact this
          have HC2 : Hid (SmallR 13 (ys ++ [c])) := fun y hy => by
            rcases List.mem_append.1 hy with hy | hy
            · exact HC.out y hy
            · obtain rfl : y = c := by simpa using hy
              exact ⟨hW.i64 (by decide), by omega⟩
          clear S5 S6 S7 hrows hownY hgY hatY kB hW HC
          replace hlen := Lib.hid hlen
          have hyl2 : (ys ++ [c]).length + (m - 1) ≤ 9 := by rw [← hlen.out]; omega
          go_wp2_with fail
          go_roundw
          case rel => exact ⟨m - 1, aY, cY, cs ++ [.slice B2 c.length cap2], ys ++ [c], by omega, rfl, hyl2, HC2, S8⟩
          case measure => simp [intOf]; omega
      · have e0 : decide ((0 : Int) < (m : Int)) = false := decide_eq_false (by omega)
        have S4 := Lib.hid (HS.out.mono (show _ ≤ A + 1000 by omega))
        have hcur := Lib.hid S4.out.cur
        clear HS
        go_wp2_with fail
        refine (cur_pick_at (lo := 0) (hi := 39) hcur.out (by omega) (by omega) (by omega) (by omega) (by omega)).mono ?_
        rintro e w5 ⟨_, ⟨x, hx0, hx1, rfl⟩, rfl, hi5, hc5⟩
        have S5 := Lib.hid (S4.out.turn hi5 hc5)
        clear S4 hcur hi5 hc5 e0
        have hx5 : x = 0 ∨ x = 1 ∨ x = 2 ∨ x = 3 ∨ 3 < x := by omega
        rcases hx5 with rfl | rfl | rfl | rfl | hx5
        · as_aux_lemma =>
          have hgl : g < w5.heap.size := S5.out.cur.lt
          have hcall := Lib.hid (cur_among (-1) 13 w5.heap.size 0 5 5 _ g ca cl cc (w5.alloc (.cells #[.int .i64 (-1), .int .i64 13, .int .i64 12, .int .i64 0, .int .i64 1] 3)) (S5.out.cur.grow (bal (bb _) _)) (by omega) (by decide) (by decide) (ints_new rfl fun j hj => by
            match j, hj with
            | 0, _ => exact ⟨_, rfl, by decide, by decide⟩
            | 1, _ => exact ⟨_, rfl, by decide, by decide⟩
            | 2, _ => exact ⟨_, rfl, by decide, by decide⟩
            | 3, _ => exact ⟨_, rfl, by decide, by decide⟩
            | 4, _ => exact ⟨_, rfl, by decide, by decide⟩
            ) (by omega))
          go_upto_region 10 with fail
          (first | go_values | go_skip | go_guarded | go_step | go_upon)
          (first | go_values | go_skip | go_guarded | go_step | go_upon)
          (first | go_values | go_skip | go_guarded | go_step | go_upon)
          (first | go_values | go_skip | go_guarded | go_step | go_upon)
          (first | go_values | go_skip | go_guarded | go_step | go_upon)
          refine bs_five _ _ _ _ _ ?_
          simp only [put_rules]
          go_wp2_with fail
          refine hcall.out.mono ?_
          rintro e w6 ⟨_, ⟨va, hva2, hva3, rfl⟩, rfl, hi6, hc6⟩
          have S6 := (S5.out.alloc _).turn hi6 hc6
          have q0 := S6.frozen (i := 1) rfl 0
          have d0 := S6.cell (i := 1) rfl (o := 0) rfl
          have S7 : Hid (CS w g ca cl cc (A + 1000 + 2 + 2) _ [Rows Ty.int 35 (.slice B ys.length cap) cs ys, Box fb 28 #[.int .i64 va, .slice B ys.length cap], Box w.heap.size 28 #[.int .i64 0, .slice none 0 0]]) := S6.store (i := 1) rfl 0 (.int .i64 va)
          clear S5 S6 hi6 hc6 hcall
          have l0 := S7.out.cell (i := 1) rfl (o := 0) rfl
          have l1 := S7.out.cell (i := 1) rfl (o := 1) rfl
          have r0 := S7.out.cell (i := 2) rfl (o := 0) rfl
          have r1 := S7.out.cell (i := 2) rfl (o := 1) rfl
          have f0 := S7.out.frozen (i := 2) rfl 0
          have f1 := S7.out.frozen (i := 2) rfl 1
          have SF := (S7.out.store (i := 2) rfl 0 (.int .i64 va)).store (i := 2) rfl 1 (.slice B ys.length cap)
          have j0 := SF.cell (i := 2) rfl (o := 0) rfl
          have j1 := SF.cell (i := 2) rfl (o := 1) rfl
          have hR := Lib.hid ((CS.front (qs := [_]) SF).mono (show _ ≤ A + 2000 by omega))
          clear SF S7
          go_wp2_with fail
          exact bodyPost_ret (v := .agg #[.int .i64 va, .slice B ys.length cap]) (by simp [results, Tryz.results67, go_sem, j0, j1]) rfl ⟨va, B, cap, cs, ys, rfl, by omega, by omega, by omega, HC.out, hR.out⟩
        · as_aux_lemma =>
          have HS := S5
          clear S5
          have l0 := HS.out.cell (i := 1) rfl (o := 0) rfl
          have l1 := HS.out.cell (i := 1) rfl (o := 1) rfl
          go_wp2_with fail
          refine wp_region_tail_lit (S := (fun w' => w'.cell? ⟨fb, 0, none⟩ = some (.int .i64 vars) ∧ w'.cell? ⟨fb, 1, none⟩ = some (.slice B ys.length cap))) 7 [false, false, false, false, false, false, false, false, false, false] (by kernel_rfl) (by kernel_rfl) (by kernel_rfl) ?_ ?_
          · exact ⟨l0, l1⟩
          intro hSc
          (refine walkT_take (i := 0) (v := ?_) rfl (by kernel_rfl) (by decide) (by kernel_rfl) (by kernel_rfl) (fun _ _ _ h => h) (Or.inl ⟨by rfl, ?_⟩) (by assumption) ?_; rotate_left; (focus (intro w hSw; (try dsimp only at hSw); go_simp; (try with_reducible rfl); done)); (try simp only [put_rules]))
          (refine walkT_take (i := 1) (v := ?_) rfl (by kernel_rfl) (by decide) (by kernel_rfl) (by kernel_rfl) (fun _ _ _ h => h) (Or.inl ⟨by rfl, ?_⟩) (by assumption) ?_; rotate_left; (focus (intro w hSw; (try dsimp only at hSw); go_simp; (try with_reducible rfl); done)); (try simp only [put_rules]))
          (refine walkT_take (i := 2) (v := ?_) rfl (by kernel_rfl) (by decide) (by kernel_rfl) (by kernel_rfl) (fun _ _ _ h => h) (Or.inl ⟨by rfl, ?_⟩) (by assumption) ?_; rotate_left; (focus (intro w hSw; (try dsimp only at hSw); go_simp; (try with_reducible rfl); done)); (try simp only [put_rules]))
          (refine walkT_take (i := 3) (v := ?_) rfl (by kernel_rfl) (by decide) (by kernel_rfl) (by kernel_rfl) (fun _ _ _ h => h) (Or.inl ⟨by rfl, ?_⟩) (by assumption) ?_; rotate_left; (focus (intro w hSw; (try dsimp only at hSw); go_simp; (try with_reducible rfl); done)); (try simp only [put_rules]))
          (refine walkT_take (i := 4) (v := ?_) rfl (by kernel_rfl) (by decide) (by kernel_rfl) (by kernel_rfl) (fun _ _ _ h => h) (Or.inl ⟨by rfl, ?_⟩) (by assumption) ?_; rotate_left; (focus (intro w hSw; (try dsimp only at hSw); go_simp; (try with_reducible rfl); done)); (try simp only [put_rules]))
          (refine walkT_ready (rs := [5]) (by kernel_rfl) (by simp) (by decide) ?_; refine AllT.cons rfl (fun K hK => ?_) AllT.nil)
          go_simp
          go_at_call 76
          have S3 := HS.out.drew
          have hcall := Lib.hid (cur_anyClause vars (by omega) _ g ca cl cc _ S3.cur (by omega))
          refine hcall.out.mono ?_
          rintro e w3 ⟨v, c, rfl, ho, hl, hW, hi3, hc3⟩
          have S4 := S3.comp (row_cs S3.cur hi3 hc3 ho)
          obtain ⟨B2, cap2, rfl⟩ := own_slice ho
          have S5 := Lib.hid (CS.own_to_row (ps := _) S4 hW)
          clear hcall S3 S4 HS l0 l1 hi3 hc3 ho
          go_wp2_with fail
          refine hK.out _ _ ⟨S5.out.cell (i := 2) rfl (o := 0) rfl, S5.out.cell (i := 2) rfl (o := 1) rfl⟩ (fun hS2 => ?_)
          clear hK hSc
          (try simp only [put_rules])
          (refine walkT_ready (rs := [6]) (by kernel_rfl) (by simp) (by decide) ?_; refine AllT.cons rfl (fun K hK => ?_) AllT.nil)
          go_simp
          have hrows := Lib.hid ((S5.out.rows (i := 1) rfl).alloc (.cells #[.slice B2 c.length cap2] 35))
          have kB : (w3.alloc (.cells #[.slice B2 c.length cap2] 35)).cell? ⟨w3.heap.size, 0, none⟩ = some (.slice B2 c.length cap2) := cell_of_row _ _ _ _ _ _ (heap_alloc_new w3 _)
          have S6 := Lib.hid (S5.out.alloc (.cells #[.slice B2 c.length cap2] 35))
          refine hK.out _ _ ⟨S6.out.cell (i := 2) rfl (o := 0) rfl, S6.out.cell (i := 2) rfl (o := 1) rfl⟩ (fun hS3 => ?_)
          clear hK hS2
          (try simp only [put_rules])
          (refine walkT_done (by kernel_rfl) ?_)
          simp only [List.drop_succ_cons, List.drop_zero]
          (refine wpList_append_src rfl _ _ rfl Tryz.underlying26 hi hz0 hz1 hz2 rfl (by decide) _ ys.length _ rfl hrows.out _ 1 1 [.slice B2 c.length cap2] rfl (Src.one kB) (by simp [Value.oneCell']) (by unfold maxLen; omega) (by omega) ?_; intro vY wY hownY hgY hatY)
          have S7 := S5.out.rows_push (bal (bb _) _) hownY hgY hatY
          obtain ⟨aY, cY, rfl⟩ := own_slice hownY
          have b1 := S7.cell (i := 1) rfl (o := 1) rfl
          have q1 := S7.frozen (i := 1) rfl 1
          have hlen : ys.length + 1 = (ys ++ [c]).length := by simp
          have S8 : Hid (CS w g ca cl cc (A + 1500) (wY.setCell ⟨fb, 1, none⟩ (.slice aY (ys.length + 1) cY)) [Rows Ty.int 35 (.slice aY (ys ++ [c]).length cY) (cs ++ [.slice B2 c.length cap2]) (ys ++ [c]), Box fb 28 #[.int .i64 vars, .slice aY (ys ++ [c]).length cY], Box w.heap.size 28 #[.int .i64 0, .slice none 0 0]]) := by
            unfold Hid; rw [← hlen]
            have := (S7.store (i := 1) rfl 1 (.slice aY (ys.length + 1) cY)).mono (show _ ≤ A + 1500 by omega)
            rw [hlen] at this ⊢
            exact this
          have HC2 : Hid (SmallR 13 (ys ++ [c])) := fun y hy => by
            rcases List.mem_append.1 hy with hy | hy
            · exact HC.out y hy
            · obtain rfl : y = c := by simpa using hy
              exact ⟨hW, by omega⟩
          clear S5 S6 S7 hrows hownY hgY hatY kB hW HC
          replace hlen := Lib.hid hlen
          rw [hlen.out]
          rw [hlen.out] at S8
          generalize ys ++ [c] = zs at *
          have hzl : zs.length ≤ 62 := by rw [← hlen.out]; omega
          have l0 := S8.out.cell (i := 1) rfl (o := 0) rfl
          have l1 := S8.out.cell (i := 1) rfl (o := 1) rfl
          have r0 := S8.out.cell (i := 2) rfl (o := 0) rfl
          have r1 := S8.out.cell (i := 2) rfl (o := 1) rfl
          have f0 := S8.out.frozen (i := 2) rfl 0
          have f1 := S8.out.frozen (i := 2) rfl 1
          have SF := (S8.out.store (i := 2) rfl 0 (.int .i64 vars)).store (i := 2) rfl 1 (.slice aY zs.length cY)
          have j0 := SF.cell (i := 2) rfl (o := 0) rfl
          have j1 := SF.cell (i := 2) rfl (o := 1) rfl
          have hR := Lib.hid ((CS.front (qs := [_]) SF).mono (show _ ≤ A + 2000 by omega))
          clear SF S8
          go_wp2_with fail
          exact bodyPost_ret (v := .agg #[.int .i64 vars, .slice aY zs.length cY]) (by simp [results, Tryz.results67, go_sem, j0, j1]) rfl ⟨vars, aY, cY, _, zs, rfl, by omega, by omega, by omega, HC2.out, hR.out⟩
        · as_aux_lemma =>
          go_wp2_with fail
          go_loopw [] (fun wr => ∃ (B : Option Addr) (cap : Nat) (cs : List Value) (ys : List (List Int)), ys.length ≤ 61 ∧ Hid (SmallR 13 ys) ∧ Hid (CS w g ca cl cc (A + 1010 + 4 * ys.length) wr [Rows Ty.int 35 (.slice B ys.length cap) cs ys, Box fb 28 #[.int .i64 vars, .slice B ys.length cap], Box w.heap.size 28 #[.int .i64 0, .slice none 0 0]])) (fun wr => 70 - lenAt1 wr fb)
          case atStart => exact ⟨B, cap, cs, ys, by omega, HC, S5.out.mono (by omega)⟩
          case round =>
            clear S5 HC hyl
            obtain ⟨B, cap, cs, ys, hyl, HC, HS⟩ := hrel
            have l1 := HS.out.cell (i := 1) rfl (o := 1) rfl
            have hm1 : Hid (lenAt1 wr fb = ys.length) := lenAt1_of l1
            go_wp2_with fail
            refine wp_region_held_lit (S := (fun w' => w'.cell? ⟨fb, 1, none⟩ = some (.slice B ys.length cap))) 7 [false, false, false, false, false, false, false] (by kernel_rfl) (by kernel_rfl) (by kernel_rfl) ?_ ?_
            · exact l1
            intro hSc
            (refine wpAnyH_take (i := 0) (v := ?_) rfl (by kernel_rfl) (by kernel_rfl) (by kernel_rfl) (fun _ _ _ h => h) (Or.inl ⟨by rfl, ?_⟩) (by assumption) ?_; rotate_left; (focus (intro w hSw; (try dsimp only at hSw); go_simp; (try with_reducible rfl); done)); (try simp only [put_rules]))
            (refine wpAnyH_take (i := 1) (v := ?_) rfl (by kernel_rfl) (by kernel_rfl) (by kernel_rfl) (fun _ _ _ h => h) (Or.inl ⟨by rfl, ?_⟩) (by assumption) ?_; rotate_left; (focus (intro w hSw; (try dsimp only at hSw); go_simp; (try with_reducible rfl); done)); (try simp only [put_rules]))
            (refine wpAnyH_take (i := 2) (v := ?_) rfl (by kernel_rfl) (by kernel_rfl) (by kernel_rfl) (fun _ _ _ h => h) (Or.inl ⟨by rfl, ?_⟩) (by assumption) ?_; rotate_left; (focus (intro w hSw; (try dsimp only at hSw); go_simp; (try with_reducible rfl); done)); (try simp only [put_rules]))
            (refine wpAnyH_take (i := 3) (v := ?_) rfl (by kernel_rfl) (by kernel_rfl) (by kernel_rfl) (fun _ _ _ h => h) (Or.inl ⟨by rfl, ?_⟩) (by assumption) ?_; rotate_left; (focus (intro w hSw; (try dsimp only at hSw); go_simp; (try with_reducible rfl); done)); (try simp only [put_rules]))
            (refine wpAnyH_ready (rs := [4]) (by kernel_rfl) (by simp) ?_; refine AllReadyH.cons rfl (fun K hK => ?_) AllReadyH.nil)
            go_simp
            go_at_call 40
            have S3 := HS.out.drew
            have hcall := Lib.hid (cur_pick_at (lo := 0) (hi := 1) (n := 2) S3.cur (by omega) (by omega) (by omega) (by omega) (by omega))
            refine hcall.out.mono ?_
            rintro e w3 ⟨_, ⟨x, hx0, hx1, rfl⟩, rfl, hi3, hc3⟩
            have S4 := Lib.hid (S3.turn hi3 hc3)
            clear hcall S3 HS hi3 hc3
            have hxw : IntKind.i64.wrap (60 + x) = 60 + x := IntWalk.i64_in _ (by omega)
            have m1 := S4.out.cell (i := 1) rfl (o := 1) rfl
            go_wp2_with fail
            refine hK.out _ _ m1 (fun hS2 => ?_)
            clear l1
            clear hK hSc
            (try simp only [put_rules])
            (refine wpAnyH_take (i := 5) (v := ?_) rfl (by kernel_rfl) (by kernel_rfl) (by kernel_rfl) (fun _ _ _ h => h) (Or.inl ⟨by rfl, ?_⟩) (by assumption) ?_; rotate_left; (focus (intro w hSw; (try dsimp only at hSw); go_simp; (try with_reducible rfl); done)); (try simp only [put_rules]))
            by_cases hlt : (ys.length : Int) < 60 + x
            · have d0 : decide ((ys.length : Int) < 60 + x) = true := decide_eq_true hlt
              (refine wpAnyH_take (i := 6) (v := ?_) rfl (by kernel_rfl) (by kernel_rfl) (by kernel_rfl) (fun _ _ _ h => h) (Or.inl ⟨by rfl, ?_⟩) (by assumption) ?_; rotate_left; (focus (intro w hSw; (try dsimp only at hSw); go_simp; (try with_reducible rfl); done)); (try simp only [put_rules]))
              (refine wpAnyH_done (by kernel_rfl) ?_ _)
              have hp1 : ∀ x ∈ ([1] : List Int), I64 x := fun x hx => by
                obtain rfl : x = 1 := by simpa using hx
                unfold I64; omega
              have S5 := Lib.hid (CS.own_to_row (c := [1]) (S4.out.own_one (.int .i64 1) 3) hp1)
              obtain ⟨w4, hw4⟩ : ∃ w4, w3.alloc (.cells #[.int .i64 1] 3) = w4 := ⟨_, rfl⟩
              have hrows := (S5.out.rows (i := 1) rfl).alloc (.cells #[.slice (some ⟨w3.heap.size, 0, none⟩) 1 1] 35)
              have kB : ((w3.alloc (.cells #[.int .i64 1] 3)).alloc (.cells #[.slice (some ⟨w3.heap.size, 0, none⟩) 1 1] 35)).cell? ⟨w3.heap.size + 1, 0, none⟩ = some (.slice (some ⟨w3.heap.size, 0, none⟩) 1 1) := by
                have := cell_of_row _ _ 0 _ _ _ (heap_alloc_new (w3.alloc (.cells #[.int .i64 1] 3)) (.cells #[.slice (some ⟨w3.heap.size, 0, none⟩) 1 1] 35))
                rw [World.size_alloc] at this
                exact this
              replace hrows := Lib.hid hrows
              clear S4 hp1 hw4 w4
              go_wp2_with (at_builtin; refine wpList_append_src rfl _ _ rfl Tryz.underlying26 hi hz0 hz1 hz2 rfl (by decide) _ ys.length _ rfl hrows.out _ 1 1 [.slice (some ⟨w3.heap.size, 0, none⟩) 1 1] rfl (Src.one kB) (by simp [Value.oneCell']) ?c3 ?c4 ?_)
              case c3 => unfold maxLen; omega
              case c4 => omega
              intro vY wY hownY hgY hatY
              have S6 := S5.out.rows_push (bal (bb _) _) hownY hgY (by simpa using hatY)
              obtain ⟨aY, cY, rfl⟩ := own_slice hownY
              have b1 := S6.cell (i := 1) rfl (o := 1) rfl
              have q1 := S6.frozen (i := 1) rfl 1
              have hlen : ys.length + 1 = (ys ++ [[1]]).length := by simp
              have S8 : Hid (CS w g ca cl cc (A + 1010 + 4 * (ys.length + 1)) (wY.setCell ⟨fb, 1, none⟩ (.slice aY (ys.length + 1) cY)) [Rows Ty.int 35 (.slice aY (ys ++ [[1]]).length cY) (cs ++ [.slice (some ⟨w3.heap.size, 0, none⟩) 1 1]) (ys ++ [[1]]), Box fb 28 #[.int .i64 vars, .slice aY (ys ++ [[1]]).length cY], Box w.heap.size 28 #[.int .i64 0, .slice none 0 0]]) := by
                unfold Hid; rw [← hlen]
                have := (S6.store (i := 1) rfl 1 (.slice aY (ys.length + 1) cY)).mono (show _ ≤ A + 1010 + 4 * (ys.length + 1) by omega)
                rw [hlen] at this ⊢
                exact this
              have HC2 : Hid (SmallR 13 (ys ++ [[1]])) := fun y hy => by
                rcases List.mem_append.1 hy with hy | hy
                · exact HC.out y hy
                · obtain rfl : y = [1] := by simpa using hy
                  exact ⟨fun x hx => (by obtain rfl : x = 1 := by simpa using hx
                                         unfold I64; omega), by simp⟩
              have hm2 : Hid (lenAt1 (wY.setCell ⟨fb, 1, none⟩ (.slice aY (ys.length + 1) cY)) fb = ys.length + 1) := by
                have := lenAt1_of (S8.out.cell (i := 1) rfl (o := 1) rfl)
                unfold Hid; rw [this, hlen]
              clear S5 S6 hrows hownY hgY hatY kB HC
              rw [hlen] at S8
              replace hlen := Lib.hid hlen
              go_wp2_with fail
              go_roundw
              case rel => exact ⟨aY, cY, cs ++ [.slice (some ⟨w3.heap.size, 0, none⟩) 1 1], ys ++ [[1]], by rw [← hlen.out]; omega, HC2, by rw [hlen.out]; exact S8⟩
              case measure => rw [hm1.out, hm2.out]; omega
            · have d0 : decide ((ys.length : Int) < 60 + x) = false := decide_eq_false hlt
              (refine wpAnyH_take (i := 6) (v := ?_) rfl (by kernel_rfl) (by kernel_rfl) (by kernel_rfl) (fun _ _ _ h => h) (Or.inl ⟨by rfl, ?_⟩) (by assumption) ?_; rotate_left; (focus (intro w hSw; (try dsimp only at hSw); go_simp; (try with_reducible rfl); done)); (try simp only [put_rules]))
              (refine wpAnyH_done (by kernel_rfl) ?_ _)
              have l0 := S4.out.cell (i := 1) rfl (o := 0) rfl
              have l1 := S4.out.cell (i := 1) rfl (o := 1) rfl
              have r0 := S4.out.cell (i := 2) rfl (o := 0) rfl
              have r1 := S4.out.cell (i := 2) rfl (o := 1) rfl
              have f0 := S4.out.frozen (i := 2) rfl 0
              have f1 := S4.out.frozen (i := 2) rfl 1
              have SF := (S4.out.store (i := 2) rfl 0 (.int .i64 vars)).store (i := 2) rfl 1 (.slice B ys.length cap)
              have j0 := SF.cell (i := 2) rfl (o := 0) rfl
              have j1 := SF.cell (i := 2) rfl (o := 1) rfl
              have hR := Lib.hid ((CS.front (qs := [_]) SF).mono (show _ ≤ A + 2000 by omega))
              clear SF S4
              go_wp2_with fail
              exact bodyPost_ret (v := .agg #[.int .i64 vars, .slice B ys.length cap]) (by simp [results, Tryz.results67, go_sem, j0, j1]) rfl ⟨vars, B, cap, cs, ys, rfl, by omega, by omega, by omega, HC.out, hR.out⟩
        · as_aux_lemma =>
          have HS := S5
          clear S5
          have l0 := HS.out.cell (i := 1) rfl (o := 0) rfl
          have l1 := HS.out.cell (i := 1) rfl (o := 1) rfl
          go_wp2_with fail
          refine wp_region_tail_lit (S := (fun w' => w'.cell? ⟨fb, 0, none⟩ = some (.int .i64 vars) ∧ w'.cell? ⟨fb, 1, none⟩ = some (.slice B ys.length cap))) 8 [false, false, false, false, false, false, false, false, false, false, false] (by kernel_rfl) (by kernel_rfl) (by kernel_rfl) ?_ ?_
          · exact ⟨l0, l1⟩
          intro hSc
          (refine walkT_take (i := 0) (v := ?_) rfl (by kernel_rfl) (by decide) (by kernel_rfl) (by kernel_rfl) (fun _ _ _ h => h) (Or.inl ⟨by rfl, ?_⟩) (by assumption) ?_; rotate_left; (focus (intro w hSw; (try dsimp only at hSw); go_simp; (try with_reducible rfl); done)); (try simp only [put_rules]))
          (refine walkT_take (i := 1) (v := ?_) rfl (by kernel_rfl) (by decide) (by kernel_rfl) (by kernel_rfl) (fun _ _ _ h => h) (Or.inl ⟨by rfl, ?_⟩) (by assumption) ?_; rotate_left; (focus (intro w hSw; (try dsimp only at hSw); go_simp; (try with_reducible rfl); done)); (try simp only [put_rules]))
          (refine walkT_take (i := 2) (v := ?_) rfl (by kernel_rfl) (by decide) (by kernel_rfl) (by kernel_rfl) (fun _ _ _ h => h) (Or.inl ⟨by rfl, ?_⟩) (by assumption) ?_; rotate_left; (focus (intro w hSw; (try dsimp only at hSw); go_simp; (try with_reducible rfl); done)); (try simp only [put_rules]))
          (refine walkT_take (i := 3) (v := ?_) rfl (by kernel_rfl) (by decide) (by kernel_rfl) (by kernel_rfl) (fun _ _ _ h => h) (Or.inl ⟨by rfl, ?_⟩) (by assumption) ?_; rotate_left; (focus (intro w hSw; (try dsimp only at hSw); go_simp; (try with_reducible rfl); done)); (try simp only [put_rules]))
          (refine walkT_take (i := 4) (v := ?_) rfl (by kernel_rfl) (by decide) (by kernel_rfl) (by kernel_rfl) (fun _ _ _ h => h) (Or.inl ⟨by rfl, ?_⟩) (by assumption) ?_; rotate_left; (focus (intro w hSw; (try dsimp only at hSw); go_simp; (try with_reducible rfl); done)); (try simp only [put_rules]))
          (refine walkT_ready (rs := [5, 6]) (by kernel_rfl) (by simp) (by decide) ?_; refine AllT.cons rfl (fun K hK => ?_) (AllT.cons rfl (fun K hK => ?_) AllT.nil))
          · as_aux_lemma =>
              go_simp
              go_at_call 75
              have S3 := HS.out.drew
              have hcall := Lib.hid (cur_clause vars (by omega) _ g ca cl cc _ S3.cur (by omega))
              refine hcall.out.mono ?_
              rintro e w3 ⟨v, c, rfl, ho, hl, hW, hi3, hc3⟩
              have S4 := S3.comp (row_cs S3.cur hi3 hc3 ho)
              obtain ⟨B2, cap2, rfl⟩ := own_slice ho
              have S5 := Lib.hid (CS.own_to_row (ps := _) S4 (hW.i64 (by decide)))
              clear hcall S3 S4 HS l0 l1 hi3 hc3 ho
              go_wp2_with fail
              refine hK.out _ _ ⟨S5.out.cell (i := 2) rfl (o := 0) rfl, S5.out.cell (i := 2) rfl (o := 1) rfl⟩ (fun hS2 => ?_)
              clear hK hSc
              (try simp only [put_rules])
              (refine walkT_ready (rs := [6]) (by kernel_rfl) (by simp) (by decide) ?_; refine AllT.cons rfl (fun K hK => ?_) AllT.nil)
              go_simp
              have S6 := CS.own_to_row (c := []) (S5.out.own_made 3 1) (fun x hx => by simp at hx)
              have S7 := Lib.hid (CS.pend S6.swap)
              refine hK.out _ _ ⟨S7.out.cell (i := 2) rfl (o := 0) rfl, S7.out.cell (i := 2) rfl (o := 1) rfl⟩ (fun hS3 => ?_)
              clear hK hS2 S5 S6
              (try simp only [put_rules])
              (refine walkT_ready (rs := [7]) (by kernel_rfl) (by simp) (by decide) ?_; refine AllT.cons rfl (fun K hK => ?_) AllT.nil)
              go_simp
              obtain ⟨w4, hw4⟩ : ∃ w4, w3.alloc (.cells #[] 3) = w4 := ⟨_, rfl⟩
              have hsz4 : w3.heap.size + 1 = w4.heap.size := by rw [← hw4, World.size_alloc]
              rw [hw4] at S7 ⊢
              have hrows := Lib.hid ((S7.out.rows (i := 1) rfl).alloc (.cells #[.slice B2 c.length cap2, .slice (some ⟨w3.heap.size, 0, none⟩) 0 0] 35))
              have kB : (w4.alloc (.cells #[.slice B2 c.length cap2, .slice (some ⟨w3.heap.size, 0, none⟩) 0 0] 35)).cell? ⟨w4.heap.size, 0, none⟩ = some (.slice B2 c.length cap2) := cell_of_row _ _ _ _ _ _ (heap_alloc_new w4 _)
              have kC : (w4.alloc (.cells #[.slice B2 c.length cap2, .slice (some ⟨w3.heap.size, 0, none⟩) 0 0] 35)).cell? ⟨w4.heap.size, 1, none⟩ = some (.slice (some ⟨w3.heap.size, 0, none⟩) 0 0) := cell_of_row _ _ _ _ _ _ (heap_alloc_new w4 _)
              rw [← hsz4] at kB kC
              have S6 := Lib.hid (S7.out.alloc (.cells #[.slice B2 c.length cap2, .slice (some ⟨w3.heap.size, 0, none⟩) 0 0] 35))
              refine hK.out _ _ ⟨S6.out.cell (i := 2) rfl (o := 0) rfl, S6.out.cell (i := 2) rfl (o := 1) rfl⟩ (fun hS4 => ?_)
              clear hK hS3
              (try simp only [put_rules])
              (refine walkT_done (by kernel_rfl) ?_)
              simp only [List.drop_succ_cons, List.drop_zero]
              (refine wpList_append_src rfl _ _ rfl Tryz.underlying26 hi hz0 hz1 hz2 rfl (by decide) _ ys.length _ rfl hrows.out _ 2 2 [.slice B2 c.length cap2, .slice (some ⟨w3.heap.size, 0, none⟩) 0 0] rfl (Src.two kB kC) (by simp [Value.oneCell']) (by unfold maxLen; omega) (by omega) ?_; intro vY wY hownY hgY hatY)
              have S9 := S7.out.rows_append (bal (bb _) _) hownY hgY hatY
              obtain ⟨aY, cY, rfl⟩ := own_slice hownY
              have b1 := S9.cell (i := 1) rfl (o := 1) rfl
              have q1 := S9.frozen (i := 1) rfl 1
              have hlen : ys.length + 2 = (ys ++ [c, []]).length := by simp
              have S8 : Hid (CS w g ca cl cc (A + 1500) (wY.setCell ⟨fb, 1, none⟩ (.slice aY (ys.length + 2) cY)) [Rows Ty.int 35 (.slice aY (ys ++ [c, []]).length cY) (cs ++ [.slice B2 c.length cap2, .slice (some ⟨w3.heap.size, 0, none⟩) 0 0]) (ys ++ [c, []]), Box fb 28 #[.int .i64 vars, .slice aY (ys ++ [c, []]).length cY], Box w.heap.size 28 #[.int .i64 0, .slice none 0 0]]) := by
                unfold Hid; rw [← hlen]
                have := (S9.store (i := 1) rfl 1 (.slice aY (ys.length + 2) cY)).mono (show _ ≤ A + 1500 by omega)
                rw [hlen] at this ⊢
                exact this
              have HC2 : Hid (SmallR 13 (ys ++ [c, []])) := fun y hy => by
                rcases List.mem_append.1 hy with hy | hy
                · exact HC.out y hy
                · rcases List.mem_cons.1 hy with rfl | hy
                  · exact ⟨hW.i64 (by decide), by omega⟩
                  · obtain rfl : y = [] := by simpa using hy
                    exact ⟨by simp, by simp⟩
              clear S6 S7 S9 hrows hownY hgY hatY kB kC hW HC
              replace hlen := Lib.hid hlen
              rw [hlen.out]
              rw [hlen.out] at S8
              generalize ys ++ [c, []] = zs at *
              have hzl : zs.length ≤ 62 := by rw [← hlen.out]; omega
              have l0 := S8.out.cell (i := 1) rfl (o := 0) rfl
              have l1 := S8.out.cell (i := 1) rfl (o := 1) rfl
              have r0 := S8.out.cell (i := 2) rfl (o := 0) rfl
              have r1 := S8.out.cell (i := 2) rfl (o := 1) rfl
              have f0 := S8.out.frozen (i := 2) rfl 0
              have f1 := S8.out.frozen (i := 2) rfl 1
              have SF := (S8.out.store (i := 2) rfl 0 (.int .i64 vars)).store (i := 2) rfl 1 (.slice aY zs.length cY)
              have j0 := SF.cell (i := 2) rfl (o := 0) rfl
              have j1 := SF.cell (i := 2) rfl (o := 1) rfl
              have hR := Lib.hid ((CS.front (qs := [_]) SF).mono (show _ ≤ A + 2000 by omega))
              clear SF S8
              go_wp2_with fail
              exact bodyPost_ret (v := .agg #[.int .i64 vars, .slice aY zs.length cY]) (by simp [results, Tryz.results67, go_sem, j0, j1]) rfl ⟨vars, aY, cY, _, zs, rfl, by omega, by omega, by omega, HC2.out, hR.out⟩
          · as_aux_lemma =>
              go_simp
              have S6 := CS.own_to_row (c := []) (HS.out.drew.own_made 3 1) (fun x hx => by simp at hx)
              (repeat (first | simp only [drew_size] at S6 | simp only [World.size_setCell] at S6 | simp only [World.size_alloc] at S6))
              replace S6 := Lib.hid S6
              refine hK.out _ _ ⟨S6.out.cell (i := 2) rfl (o := 0) rfl, S6.out.cell (i := 2) rfl (o := 1) rfl⟩ (fun hS2 => ?_)
              clear hK hSc HS l0 l1
              (try simp only [put_rules])
              (refine walkT_ready (rs := [5]) (by kernel_rfl) (by simp) (by decide) ?_; refine AllT.cons rfl (fun K hK => ?_) AllT.nil)
              go_simp
              go_at_call 75
              have hcall := Lib.hid (cur_clause vars (by omega) _ g ca cl cc _ S6.out.cur (by omega))
              refine hcall.out.mono ?_
              rintro e w4 ⟨v, c, rfl, ho, hl, hW, hi3, hc3⟩
              have S4 := S6.out.comp (row_cs S6.out.cur hi3 hc3 ho)
              obtain ⟨B2, cap2, rfl⟩ := own_slice ho
              have S7 := Lib.hid (CS.pend (CS.own_to_row (ps := _) S4 (hW.i64 (by decide))))
              clear hcall S4 S6 hi3 hc3 ho
              go_wp2_with fail
              refine hK.out _ _ ⟨S7.out.cell (i := 2) rfl (o := 0) rfl, S7.out.cell (i := 2) rfl (o := 1) rfl⟩ (fun hS3 => ?_)
              clear hK hS2
              (try simp only [put_rules])
              (refine walkT_ready (rs := [7]) (by kernel_rfl) (by simp) (by decide) ?_; refine AllT.cons rfl (fun K hK => ?_) AllT.nil)
              go_simp
              have hrows := Lib.hid ((S7.out.rows (i := 1) rfl).alloc (.cells #[.slice B2 c.length cap2, .slice (some ⟨w5.heap.size, 0, none⟩) 0 0] 35))
              have kB : (w4.alloc (.cells #[.slice B2 c.length cap2, .slice (some ⟨w5.heap.size, 0, none⟩) 0 0] 35)).cell? ⟨w4.heap.size, 0, none⟩ = some (.slice B2 c.length cap2) := cell_of_row _ _ _ _ _ _ (heap_alloc_new w4 _)
              have kC : (w4.alloc (.cells #[.slice B2 c.length cap2, .slice (some ⟨w5.heap.size, 0, none⟩) 0 0] 35)).cell? ⟨w4.heap.size, 1, none⟩ = some (.slice (some ⟨w5.heap.size, 0, none⟩) 0 0) := cell_of_row _ _ _ _ _ _ (heap_alloc_new w4 _)
              have S6 := Lib.hid (S7.out.alloc (.cells #[.slice B2 c.length cap2, .slice (some ⟨w5.heap.size, 0, none⟩) 0 0] 35))
              refine hK.out _ _ ⟨S6.out.cell (i := 2) rfl (o := 0) rfl, S6.out.cell (i := 2) rfl (o := 1) rfl⟩ (fun hS4 => ?_)
              clear hK hS3
              (try simp only [put_rules])
              (refine walkT_done (by kernel_rfl) ?_)
              simp only [List.drop_succ_cons, List.drop_zero]
              (refine wpList_append_src rfl _ _ rfl Tryz.underlying26 hi hz0 hz1 hz2 rfl (by decide) _ ys.length _ rfl hrows.out _ 2 2 [.slice B2 c.length cap2, .slice (some ⟨w5.heap.size, 0, none⟩) 0 0] rfl (Src.two kB kC) (by simp [Value.oneCell']) (by unfold maxLen; omega) (by omega) ?_; intro vY wY hownY hgY hatY)
              have S9 := S7.out.rows_append (bal (bb _) _) hownY hgY hatY
              obtain ⟨aY, cY, rfl⟩ := own_slice hownY
              have b1 := S9.cell (i := 1) rfl (o := 1) rfl
              have q1 := S9.frozen (i := 1) rfl 1
              have hlen : ys.length + 2 = (ys ++ [c, []]).length := by simp
              have S8 : Hid (CS w g ca cl cc (A + 1500) (wY.setCell ⟨fb, 1, none⟩ (.slice aY (ys.length + 2) cY)) [Rows Ty.int 35 (.slice aY (ys ++ [c, []]).length cY) (cs ++ [.slice B2 c.length cap2, .slice (some ⟨w5.heap.size, 0, none⟩) 0 0]) (ys ++ [c, []]), Box fb 28 #[.int .i64 vars, .slice aY (ys ++ [c, []]).length cY], Box w.heap.size 28 #[.int .i64 0, .slice none 0 0]]) := by
                unfold Hid; rw [← hlen]
                have := (S9.store (i := 1) rfl 1 (.slice aY (ys.length + 2) cY)).mono (show _ ≤ A + 1500 by omega)
                rw [hlen] at this ⊢
                exact this
              have HC2 : Hid (SmallR 13 (ys ++ [c, []])) := fun y hy => by
                rcases List.mem_append.1 hy with hy | hy
                · exact HC.out y hy
                · rcases List.mem_cons.1 hy with rfl | hy
                  · exact ⟨hW.i64 (by decide), by omega⟩
                  · obtain rfl : y = [] := by simpa using hy
                    exact ⟨by simp, by simp⟩
              clear S6 S7 S9 hrows hownY hgY hatY kB kC hW HC
              replace hlen := Lib.hid hlen
              rw [hlen.out]
              rw [hlen.out] at S8
              generalize ys ++ [c, []] = zs at *
              have hzl : zs.length ≤ 62 := by rw [← hlen.out]; omega
              have l0 := S8.out.cell (i := 1) rfl (o := 0) rfl
              have l1 := S8.out.cell (i := 1) rfl (o := 1) rfl
              have r0 := S8.out.cell (i := 2) rfl (o := 0) rfl
              have r1 := S8.out.cell (i := 2) rfl (o := 1) rfl
              have f0 := S8.out.frozen (i := 2) rfl 0
              have f1 := S8.out.frozen (i := 2) rfl 1
              have SF := (S8.out.store (i := 2) rfl 0 (.int .i64 vars)).store (i := 2) rfl 1 (.slice aY zs.length cY)
              have j0 := SF.cell (i := 2) rfl (o := 0) rfl
              have j1 := SF.cell (i := 2) rfl (o := 1) rfl
              have hR := Lib.hid ((CS.front (qs := [_]) SF).mono (show _ ≤ A + 2000 by omega))
              clear SF S8
              go_wp2_with fail
              exact bodyPost_ret (v := .agg #[.int .i64 vars, .slice aY zs.length cY]) (by simp [results, Tryz.results67, go_sem, j0, j1]) rfl ⟨vars, aY, cY, _, zs, rfl, by omega, by omega, by omega, HC2.out, hR.out⟩
        · as_aux_lemma =>
          have l0 := S5.out.cell (i := 1) rfl (o := 0) rfl
          have l1 := S5.out.cell (i := 1) rfl (o := 1) rfl
          have r0 := S5.out.cell (i := 2) rfl (o := 0) rfl
          have r1 := S5.out.cell (i := 2) rfl (o := 1) rfl
          have f0 := S5.out.frozen (i := 2) rfl 0
          have f1 := S5.out.frozen (i := 2) rfl 1
          have SF := (S5.out.store (i := 2) rfl 0 (.int .i64 vars)).store (i := 2) rfl 1 (.slice B ys.length cap)
          have j0 := SF.cell (i := 2) rfl (o := 0) rfl
          have j1 := SF.cell (i := 2) rfl (o := 1) rfl
          have hR := Lib.hid ((CS.front (qs := [_]) SF).mono (show _ ≤ A + 2000 by omega))
          clear SF S5
          go_wp2_with fail
          exact bodyPost_ret (v := .agg #[.int .i64 vars, .slice B ys.length cap]) (by simp [results, Tryz.results67, go_sem, j0, j1]) rfl ⟨vars, B, cap, cs, ys, rfl, by omega, by omega, by omega, HC.out, hR.out⟩
end Go.Proofs.YtahbepajeplcmaaGreat

/- Contracts: drawn Cnfs as inputs of laws. -/
namespace Go.Proofs.YtahbepajeplcmaaGreat
open Go.RowKit

section
variable {w0 w w' : World} {ps qs : List Asn} {A A' g cl cc : Nat} {ca : Option Addr}
theorem Sp.cur_laid (h : Sp w0 w ps) (ca : Option Addr) (cl cc : Nat) : Sp w0 (w.alloc (.cells #[.slice ca cl cc, .int .i64 0, .int .u64 0] 44)) (CurA 0 w.heap.size ca cl cc :: ps) :=
  h.new (bal (bb w) _) (F := [w.heap.size]) ⟨rfl, 0, 0, heap_alloc_new w _, Nat.le_refl 0, Int.le_refl 0, by omega⟩ (by simp)
theorem Sp.cs_call (h : Sp w0 w (CurA A g ca cl cc :: ps)) (k : CS w g ca cl cc A' w' qs) (hc : CodeOk w0 ca cl) (hs : cl ≤ 65536) : Sp w0 w' (qs ++ CurA A' g ca cl cc :: ps) := by
  have hb := ((h.cur (A' := A') (i := 0) rfl hc hs).2 w' k.cur k.chg).below
  obtain ⟨h1, F, ⟨F1, F2, rfl, hd, ⟨rfl, -⟩, h5⟩, h3⟩ := h
  have hg : g < w.heap.size := by
    obtain ⟨A0, h0⟩ := k.1
    exact h0.lt
  obtain ⟨k0, k1, k2, G, k3, k4⟩ := k
  have hk := sep_keep h5 fun b hm => k2.block b (sep_lt h5 b hm) fun hb => by
    obtain rfl : b = g := by simpa using hb
    exact hd b (by simp) hm
  refine ⟨hb, G ++ ([g] ++ F2), sep_append k3 ⟨[g], F2, rfl, hd, ⟨rfl, k1.ok⟩, hk⟩ (fun b hb hb2 => ?_), fun b hb => ?_⟩
  · have := k4 b hb
    rcases List.mem_append.1 hb2 with h' | h'
    · obtain rfl : b = g := by simpa using h'
      omega
    · have := sep_lt h5 b h'; omega
  · rcases List.mem_append.1 hb with hb | hb
    · have := k4 b hb; have := h1.size; omega
    · exact h3 b hb
end
/-- A drawn Cnf of its own. -/
def CnfD (w : World) (e : Ending) (w' : World) : Prop := ∃ (vars : Int) (B : Option Addr) (cap : Nat) (cs : List Value) (xss : List (List Int)), e = .returned (.agg #[.int .i64 vars, .slice B xss.length cap]) ∧ -1 ≤ vars ∧ vars ≤ 13 ∧ xss.length ≤ 62 ∧ SmallR 13 xss ∧
  Sp w w' [Rows Ty.int 35 (.slice B xss.length cap) cs xss]

/- left out: the seat has no spec.DrawIsCnf -/

/- left out: the seat has no spec.DrawBackboneOf -/
end Go.Proofs.YtahbepajeplcmaaGreat

/- Contracts: the draws of FnCounting. Printed by gen_cuj.py. -/
namespace Go.Proofs.YtahbepajeplcmaaGreat
open Go.RowKit

/-- Two drawn numbers. -/
def TwoN (w : World) (e : Ending) (w' : World) : Prop := ∃ n k : Int, e = .returned (.tuple #[.int .i64 n, .int .i64 k]) ∧ -1 ≤ n ∧ n ≤ 13 ∧ -1 ≤ k ∧ k ≤ 13 ∧ Below w.heap.size w w'
set_option maxRecDepth 100000 in
set_option maxHeartbeats 4000000 in
theorem drawAtMost_any (ca : Option Addr) (cl cc : Nat) (w : World) (hc : CodeOk w ca cl) (hs : cl ≤ 65536) : Calls Tryz.prog 5 #[.slice ca cl cc] w (TwoN w) := by
  have S0 := (Sp.start w).cur_laid ca cl cc
  obtain ⟨gc, hgc⟩ : ∃ gc, w.heap.size = gc := ⟨_, rfl⟩
  rw [hgc] at S0
  have hcH := Lib.hid hc
  replace S0 := Lib.hid S0
  have hz1 : (w.alloc (.cells #[.slice ca cl cc, .int .i64 0, .int .u64 0] 44)).heap.size = gc + 1 := by simp [hgc]
  clear hc
  have S0x := Lib.hid (S0.out.alloc (.cells #[.int .i64 3, .int .i64 4, .int .i64 5, .int .i64 2, .int .i64 1, .int .i64 0, .int .i64 12, .int .i64 6, .int .i64 (-1), .int .i64 13] 3))
  have hgl := (S0.out.cur (A' := 0) (i := 0) rfl hcH.out hs).1.lt
  have h1 := Lib.hid (cur_among (-1) 13 (w.alloc (.cells #[.slice ca cl cc, .int .i64 0, .int .u64 0] 44)).heap.size 0 10 10 0 gc ca cl cc _ (S0x.out.cur (A' := 0) (i := 0) rfl hcH.out hs).1 (by omega) (by decide) (by decide) (ints_new (by simp) fun j hj => by
    match j, hj with
    | 0, _ => exact ⟨_, rfl, by omega, by omega⟩
    | 1, _ => exact ⟨_, rfl, by omega, by omega⟩
    | 2, _ => exact ⟨_, rfl, by omega, by omega⟩
    | 3, _ => exact ⟨_, rfl, by omega, by omega⟩
    | 4, _ => exact ⟨_, rfl, by omega, by omega⟩
    | 5, _ => exact ⟨_, rfl, by omega, by omega⟩
    | 6, _ => exact ⟨_, rfl, by omega, by omega⟩
    | 7, _ => exact ⟨_, rfl, by omega, by omega⟩
    | 8, _ => exact ⟨_, rfl, by omega, by omega⟩
    | 9, _ => exact ⟨_, rfl, by omega, by omega⟩) (by omega))
  clear hgl
  rw [hz1] at h1
  clear S0 hz1
  replace hgc := Lib.hid hgc
  go_enter Tryz.func5, Tryz.ntmps5
  go_wp2_with fail
  rw [hgc.out]
  refine h1.out.mono ?_
  rintro e w1 ⟨_, ⟨n, hn0, hn1, rfl⟩, rfl, hi1, hc1⟩
  have S1 : Hid (Sp w w1 [CurA 10 gc ca cl cc]) := (S0x.out.cur (A' := 10) (i := 0) rfl hcH.out hs).2 w1 (hi1.mono (by omega)) hc1
  clear S0x h1 hi1 hc1
  have S1x := Lib.hid (S1.out.alloc (.cells #[.int .i64 1, .int .i64 2, .int .i64 1, .int .i64 3, .int .i64 0, .int .i64 11, .int .i64 12, .int .i64 (-1), .int .i64 13] 3))
  have hgl := (S1.out.cur (A' := 0) (i := 0) rfl hcH.out hs).1.lt
  have h2 := Lib.hid (cur_among (-1) 13 w1.heap.size 0 9 9 10 gc ca cl cc _ (S1x.out.cur (A' := 0) (i := 0) rfl hcH.out hs).1 (by omega) (by decide) (by decide) (ints_new (by simp) fun j hj => by
    match j, hj with
    | 0, _ => exact ⟨_, rfl, by omega, by omega⟩
    | 1, _ => exact ⟨_, rfl, by omega, by omega⟩
    | 2, _ => exact ⟨_, rfl, by omega, by omega⟩
    | 3, _ => exact ⟨_, rfl, by omega, by omega⟩
    | 4, _ => exact ⟨_, rfl, by omega, by omega⟩
    | 5, _ => exact ⟨_, rfl, by omega, by omega⟩
    | 6, _ => exact ⟨_, rfl, by omega, by omega⟩
    | 7, _ => exact ⟨_, rfl, by omega, by omega⟩
    | 8, _ => exact ⟨_, rfl, by omega, by omega⟩) (by omega))
  clear hgl
  clear S1
  go_wp2_with fail
  refine h2.out.mono ?_
  rintro e w2 ⟨_, ⟨k, hk0, hk1, rfl⟩, rfl, hi2, hc2⟩
  have hB := Lib.hid ((S1x.out.cur (A' := 20) (i := 0) rfl hcH.out hs).2 w2 (hi2.mono (by omega)) hc2).below
  clear S1x h2 hi2 hc2
  go_wp2_with fail
  go_ret2
  exact ⟨n, k, rfl, hn0, hn1, hk0, hk1, hB.out⟩

/-- Two drawn Cnfs. -/
def CnfsD (w : World) (e : Ending) (w' : World) : Prop := ∃ (va vb : Int) (B C : Option Addr) (p q : Nat) (cs ds : List Value) (xss yss : List (List Int)), e = .returned (.tuple #[.agg #[.int .i64 va, .slice B xss.length p], .agg #[.int .i64 vb, .slice C yss.length q]]) ∧ xss.length ≤ 62 ∧ yss.length ≤ 62 ∧
  Sp w w' [Rows Ty.int 35 (.slice C yss.length q) ds yss, Rows Ty.int 35 (.slice B xss.length p) cs xss]
set_option maxRecDepth 100000 in
set_option maxHeartbeats 4000000 in
theorem drawBoth_any (ca : Option Addr) (cl cc : Nat) (w : World) (hc : CodeOk w ca cl) (hs : cl ≤ 65536) : Calls Tryz.prog 49 #[.slice ca cl cc] w (CnfsD w) := by
  have S0 := (((Sp.start w).alloc_box #[.int .i64 0, .slice none 0 0] 28).alloc_box #[.int .i64 0, .slice none 0 0] 28).cur_laid ca cl cc
  simp only [World.size_alloc] at S0
  have hi := Lib.hid (S0.cur (A' := 0) (i := 0) rfl hc hs).1
  replace S0 := Lib.hid S0
  go_enter Tryz.func49, Tryz.ntmps49
  go_wp2_with fail
  refine (cur_cnf 0 (w.heap.size + 1 + 1) ca cl cc _ hi.out (by omega)).mono ?_
  rintro e w1 ⟨va, B, p, cs, xss, rfl, -, -, hl1, -, T⟩
  have S1 := Lib.hid (S0.out.cs_call T hc hs)
  clear T S0 hi
  have hi := Lib.hid (S1.out.cur (A' := 0) (i := 1) rfl hc hs).1
  go_wp2_with fail
  refine (cur_cnf _ (w.heap.size + 1 + 1) ca cl cc _ hi.out (by omega)).mono ?_
  rintro e w2 ⟨vb, C, q, ds, yss, rfl, -, -, hl2, -, T⟩
  have S2 := (S1.out.bring (i := 1) rfl).cs_call T hc hs
  clear T S1 hi
  have a0 := S2.cell (i := 4) rfl (o := 0) rfl
  have a1 := S2.cell (i := 4) rfl (o := 1) rfl
  have f0 := S2.frozen (i := 4) rfl 0
  have f1 := S2.frozen (i := 4) rfl 1
  have b0 := S2.cell (i := 3) rfl (o := 0) rfl
  have b1 := S2.cell (i := 3) rfl (o := 1) rfl
  have g0 := S2.frozen (i := 3) rfl 0
  have g1 := S2.frozen (i := 3) rfl 1
  have S6 := (((S2.store (i := 4) rfl 0 (.int .i64 va)).store (i := 4) rfl 1 (.slice B xss.length p)).store (i := 3) rfl 0 (.int .i64 vb)).store (i := 3) rfl 1 (.slice C yss.length q)
  have j0 := S6.cell (i := 4) rfl (o := 0) rfl
  have j1 := S6.cell (i := 4) rfl (o := 1) rfl
  have j2 := S6.cell (i := 3) rfl (o := 0) rfl
  have j3 := S6.cell (i := 3) rfl (o := 1) rfl
  have hR := Lib.hid (Sp.pick (qs := [Rows Ty.int 35 (.slice C yss.length q) ds yss, Rows Ty.int 35 (.slice B xss.length p) cs xss]) [0, 1] S6 rfl)
  clear S6 S2
  go_wp2_with fail
  exact bodyPost_ret (v := .tuple #[.agg #[.int .i64 va, .slice B xss.length p], .agg #[.int .i64 vb, .slice C yss.length q]]) (by simp [results, Tryz.results49, go_sem, j0, j1, j2, j3]) rfl ⟨va, vb, B, C, p, q, cs, ds, xss, yss, rfl, hl1, hl2, hR.out⟩
set_option maxRecDepth 100000 in
set_option maxHeartbeats 4000000 in
theorem drawApart_any (ca : Option Addr) (cl cc : Nat) (w : World) (hc : CodeOk w ca cl) (hs : cl ≤ 65536) : Calls Tryz.prog 16 #[.slice ca cl cc] w (CnfsD w) := by
  have S0 := ((Sp.start w).alloc_box #[.int .i64 0, .slice none 0 0] 28).alloc_box #[.int .i64 0, .slice none 0 0] 28
  simp only [World.size_alloc] at S0
  have hd := Lib.hid (drawBoth_any ca cl cc _ (hc.grow S0.below) hs)
  replace S0 := Lib.hid S0
  go_enter Tryz.func16, Tryz.ntmps16
  go_wp2_with fail
  refine hd.out.mono ?_
  rintro e w1 ⟨va, vb, B, C, p, q, cs, ds, xss, yss, rfl, hl1, hl2, T⟩
  have S2 := S0.out.seq T
  clear T S0 hd
  have a0 := S2.cell (i := 3) rfl (o := 0) rfl
  have a1 := S2.cell (i := 3) rfl (o := 1) rfl
  have f0 := S2.frozen (i := 3) rfl 0
  have f1 := S2.frozen (i := 3) rfl 1
  have b0 := S2.cell (i := 2) rfl (o := 0) rfl
  have b1 := S2.cell (i := 2) rfl (o := 1) rfl
  have g0 := S2.frozen (i := 2) rfl 0
  have g1 := S2.frozen (i := 2) rfl 1
  have S6 := (((S2.store (i := 3) rfl 0 (.int .i64 va)).store (i := 3) rfl 1 (.slice B xss.length p)).store (i := 2) rfl 0 (.int .i64 vb)).store (i := 2) rfl 1 (.slice C yss.length q)
  have j0 := S6.cell (i := 3) rfl (o := 0) rfl
  have j1 := S6.cell (i := 3) rfl (o := 1) rfl
  have j2 := S6.cell (i := 2) rfl (o := 0) rfl
  have j3 := S6.cell (i := 2) rfl (o := 1) rfl
  have hR := Lib.hid (Sp.pick (qs := [Rows Ty.int 35 (.slice C yss.length q) ds yss, Rows Ty.int 35 (.slice B xss.length p) cs xss]) [0, 0] S6 rfl)
  clear S6 S2
  go_wp2_with fail
  exact bodyPost_ret (v := .tuple #[.agg #[.int .i64 va, .slice B xss.length p], .agg #[.int .i64 vb, .slice C yss.length q]]) (by simp [results, Tryz.results16, go_sem, j0, j1, j2, j3]) rfl ⟨va, vb, B, C, p, q, cs, ds, xss, yss, rfl, hl1, hl2, hR.out⟩
end Go.Proofs.YtahbepajeplcmaaGreat

/- Contracts: the bits of a total assignment, in the program; numbers held, in the laws. -/
namespace Go.Proofs.YtahbepajeplcmaaGreat
open Go.RowKit

theorem or_natS (a b : Nat) (ha : a < 2 ^ 62) (hb : b < 2 ^ 62) : bits .or .i64 (a : Int) (b : Int) = ((a ||| b : Nat) : Int) := by
  have h := bits_nat .i64 62 (by decide) (fun n h0 h1 => by rw [IntKind.wrap_i64]; have : (2 : Int) ^ 62 = 4611686018427387904 := by decide
                                                            omega) a b ha hb
  exact h.2
theorem modS_next (b k : Nat) : b % 2 ^ (k + 1) = if b.testBit k then (b % 2 ^ k) ||| 2 ^ k else b % 2 ^ k := by
  rw [Nat.mod_pow_succ, Nat.testBit_eq_decide_div_mod_eq]
  have h : b % 2 ^ k < 2 ^ k := Nat.mod_lt _ (Nat.two_pow_pos k)
  have h3 : b / 2 ^ k % 2 < 2 := Nat.mod_lt _ (by decide)
  by_cases h1 : b / 2 ^ k % 2 = 1
  · rw [h1, decide_eq_true rfl, if_pos rfl, Nat.mul_one]
    have h2 := Nat.two_pow_add_eq_or_of_lt h 1
    rw [Nat.mul_one] at h2
    rw [Nat.or_comm, ← h2, Nat.add_comm]
  · have h4 : b / 2 ^ k % 2 = 0 := by omega
    rw [h4]
    simp

/- left out: the seat has no impl.bitsOf -/

/- left out: the seat has no impl.BitsOfTotal -/

/- left out: the seat has no laws.vHas -/
end Go.Proofs.YtahbepajeplcmaaGreat

/- Contracts: drawn assignments, and drawn inputs of laws on assignments. -/
namespace Go.Proofs.YtahbepajeplcmaaGreat
open Go.RowKit

def leastS (a b : Int) : Int := if a < b then a else b
def mostS (a b : Int) : Int := if b < a then a else b
theorem l1LeastS_any (a b : Int) (w : World) : Calls Tryz.prog 38 #[.int .i64 a, .int .i64 b] w fun e w' => e = .returned (.int .i64 (leastS a b)) ∧ w = w' := by
  unfold leastS
  by_cases h : a < b
  · rw [if_pos h]
    have d : decide (a < b) = true := decide_eq_true h
    clear h
    go_enter Tryz.func38, Tryz.ntmps38
    go_wp2_with fail
    go_ret
    exact ⟨rfl, rfl⟩
  · rw [if_neg h]
    have d : decide (a < b) = false := decide_eq_false h
    clear h
    go_enter Tryz.func38, Tryz.ntmps38
    go_wp2_with fail
    go_ret
    exact ⟨rfl, rfl⟩
theorem l1MostS_any (a b : Int) (w : World) : Calls Tryz.prog 31 #[.int .i64 a, .int .i64 b] w fun e w' => e = .returned (.int .i64 (mostS a b)) ∧ w = w' := by
  unfold mostS
  by_cases h : b < a
  · rw [if_pos h]
    have d : decide (b < a) = true := decide_eq_true h
    clear h
    go_enter Tryz.func31, Tryz.ntmps31
    go_wp2_with fail
    go_ret
    exact ⟨rfl, rfl⟩
  · rw [if_neg h]
    have d : decide (b < a) = false := decide_eq_false h
    clear h
    go_enter Tryz.func31, Tryz.ntmps31
    go_wp2_with fail
    go_ret
    exact ⟨rfl, rfl⟩
theorem among_three3 {w1 : World} {vars : Int} {g A cl cc : Nat} {ca : Option Addr} (h : CurIs A g ca cl cc w1) (hv : -1 ≤ vars ∧ vars ≤ 13) (hA : A ≤ 80000000) :
    Calls Tryz.prog 20 #[.pointer (some ⟨g, 0, none⟩), .slice (some ⟨w1.heap.size, 0, none⟩) 3 3] (w1.alloc (.cells #[.int .i64 0, .int .i64 (vars + 1), .int .i64 (-9223372036854775808)] 3)) (CurPost (IntIn (-9223372036854775808) 14) (A + 2) g ca cl cc (w1.alloc (.cells #[.int .i64 0, .int .i64 (vars + 1), .int .i64 (-9223372036854775808)] 3))) := by
  have hg := h.lt
  refine cur_among (-9223372036854775808) 14 w1.heap.size 0 3 3 A g ca cl cc _ (h.grow (bal (bb _) _)) (by omega) (by decide) (by decide) (ints_new rfl fun j hj => ?_) (by omega)
  match j, hj with
  | 0, _ => exact ⟨_, rfl, by decide, by decide⟩
  | 1, _ => exact ⟨_, rfl, by omega, by omega⟩
  | 2, _ => exact ⟨_, rfl, by decide, by decide⟩
theorem AllI.snoc {c : List Int} {x : Int} (h : AllI c) (hx : I64 x) : AllI (c ++ [x]) := fun y hy => by
  rcases List.mem_append.1 hy with hy | hy
  · exact h y hy
  · obtain rfl : y = x := by simpa using hy
    exact hx

/- left out: the seat has no (*loop.example/g01080/spec.l1Cur).assignment -/

/- left out: the seat has no (*loop.example/g01080/spec.l1Cur).anyAssignment -/
end Go.Proofs.YtahbepajeplcmaaGreat

/- Contract: DrawXorCnf. Printed by gen_cuk.py. -/
namespace Go.Proofs.YtahbepajeplcmaaGreat
open Go.RowKit

set_option maxRecDepth 100000 in
set_option maxHeartbeats 4000000 in
theorem l4To6_any (w : World) : Calls Tryz.prog 41 #[.int .i64 6] w fun e w' => ∃ B c, e = .returned (.slice B 6 c) ∧ Sp w w' [Own 3 1 (.slice B 6 c) 6 (([1, 2, 3, 4, 5, 6] : List Int).map (.int .i64))] := by
  obtain ⟨i2, hj0, hy0, hy1, hy2⟩ := info_parts infoInt
  have S0 := Lib.hid ((Sp.start w).own_made 3 1)
  go_enter Tryz.func41, Tryz.ntmps41
  go_wp2_with fail
  go_loopw [3, 4] (fun v3 v4 wr => ∃ (k : Nat) (z : Int) (D : Option Addr) (dc : Nat) (ds : List Int), k ≤ 6 ∧ 1 ≤ z ∧ z ≤ 7 ∧ Hid ((k : Int) + 1 = z) ∧ v4 = .int .i64 z ∧ v3 = .slice D k dc ∧ Hid (ds = ([1, 2, 3, 4, 5, 6] : List Int).take k) ∧ Hid (Sp w wr [Own 3 1 (.slice D k dc) k (ds.map (.int .i64))])) (fun _ v4 _ => (7 - intOf v4).toNat)
  case atStart => exact ⟨0, 1, _, 0, [], by omega, by decide, by decide, rfl, rfl, rfl, rfl, S0⟩
  case round =>
    clear S0
    obtain ⟨k, z, D, dc, ds, hk, hz1, hz7, hkz, rfl, rfl, hds, HS⟩ := hrel
    by_cases hlt : z ≤ 6
    · have hk6 : k < 6 := by have := hkz.out; omega
      have hnx : Hid (ds ++ [z] = ([1, 2, 3, 4, 5, 6] : List Int).take (k + 1)) := by
        unfold Hid
        rw [hds.out, ← hkz.out]
        match k, hk6 with
        | 0, _ | 1, _ | 2, _ | 3, _ | 4, _ | 5, _ => rfl
      have hkz2 : Hid (((k + 1 : Nat) : Int) + 1 = z + 1) := by unfold Hid; have := hkz.out; omega
      have hw1 : IntKind.i64.wrap (z + 1) = z + 1 := IntWalk.i64_in _ (by omega)
      have S7 := HS.out.alloc_box #[.int .i64 z] 3
      have kB := S7.cell (i := 0) rfl (o := 0) rfl
      replace S7 := Lib.hid S7
      clear HS hds hkz
      go_wp2_with (at_builtin; refine wpList_append_src rfl _ _ rfl Tryz.underlying35 hj0 hy0 hy1 hy2 rfl (by decide) _ k _ rfl (S7.out.own (i := 1) rfl) _ 1 1 [.int .i64 z] rfl (Src.one kB) (by simp [Value.oneCell']) ?c3 ?c4 ?_)
      case c3 => unfold maxLen; omega
      case c4 => omega
      intro vE wE hownE hgE hatE
      have S8 := (S7.out.own_push (i := 1) rfl (bb _) hownE hgE (by simpa using hatE)).tail
      obtain ⟨aE, cE, rfl⟩ := own_slice hownE
      have hfl : ds.map (Value.int .i64) ++ [.int .i64 z] = (ds ++ [z]).map (.int .i64) := by simp
      simp only [List.set_cons_zero, List.set_cons_succ] at S8
      rw [hfl] at S8
      replace S8 := Lib.hid S8
      generalize ds ++ [z] = ds2 at *
      clear S7 kB hownE hgE hatE hfl
      go_wp2_with fail
      go_roundw
      case rel => exact ⟨k + 1, z + 1, aE, cE, ds2, by omega, by omega, by omega, hkz2, rfl, rfl, hnx, S8⟩
      case measure => simp [intOf]; omega
    · have hk6 : k = 6 := by have := hkz.out; omega
      subst hk6
      have e : ds = [1, 2, 3, 4, 5, 6] := hds.out
      subst e
      clear hds
      go_wp2_with fail
      go_ret
      exact ⟨D, dc, rfl, HS.out⟩

/-- A drawn list for a parity. -/
def XorD (w : World) (e : Ending) (w' : World) : Prop := ∃ (vars : Int) (B : Option Addr) (cap : Nat) (c : List Int) (odd : Bool), e = .returned (.tuple #[.int .i64 vars, .slice B c.length cap, .bool odd]) ∧ -1 ≤ vars ∧ vars ≤ 13 ∧ c.length ≤ 7 ∧ AllI c ∧ Sp w w' [Own 3 1 (.slice B c.length cap) c.length (c.map (.int .i64))]
set_option maxRecDepth 100000 in
set_option maxHeartbeats 16000000 in
theorem drawXor_any (ca : Option Addr) (cl cc : Nat) (w : World) (hc : CodeOk w ca cl) (hs : cl ≤ 65536) : Calls Tryz.prog 13 #[.slice ca cl cc] w (XorD w) := by
  obtain ⟨i0, hi0, hy0, hy1, hy2⟩ := info_parts infoInt
  have S0 := (Sp.start w).cur_laid ca cl cc
  obtain ⟨g, hgc⟩ : ∃ g, w.heap.size = g := ⟨_, rfl⟩
  rw [hgc] at S0
  have hcH := Lib.hid hc
  obtain ⟨wc, hwc⟩ : ∃ wc, w.alloc (.cells #[.slice ca cl cc, .int .i64 0, .int .u64 0] 44) = wc := ⟨_, rfl⟩
  rw [hwc] at S0
  have hcu := (S0.cur (A' := 0) (i := 0) rfl hc hs).1
  have hgl := hcu.lt
  have HS0 := Lib.hid (CS.start hcu)
  have hv2 := Lib.hid (cur_vars2 0 g ca cl cc wc hcu (by omega))
  replace S0 := Lib.hid S0
  replace hgc := Lib.hid hgc
  replace hwc := Lib.hid hwc
  clear hc hcu
  go_enter Tryz.func13, Tryz.ntmps13
  go_wp2_with fail
  rw [hgc.out, hwc.out]
  refine hv2.out.mono ?_
  rintro e w1 ⟨_, ⟨vars, hv0, hv1, rfl⟩, rfl, hi1, hc1⟩
  have HS1 := Lib.hid ((HS0.out.turn hi1 hc1).own_made 3 1)
  have hle := Lib.hid (fun W => l1LeastS_any vars 12 W)
  have hn : leastS vars 12 ≤ 12 := by unfold leastS; split <;> omega
  generalize leastS vars 12 = n at *
  clear HS0 hv2 hi1 hc1
  go_wp2_with fail
  go_loopw [7, 8] (fun v7 v8 wr => ∃ (k : Nat) (z : Int) (c : List Int) (B : Option Addr) (cap : Nat), k ≤ 12 ∧ 1 ≤ z ∧ z ≤ 13 ∧ Hid ((k : Int) + 1 = z) ∧ v8 = .int .i64 z ∧ v7 = .slice B c.length cap ∧ c.length ≤ 5 ∧ Hid (AllI c) ∧ Hid (CS wc g ca cl cc (4 + 2 * k) wr [Own 3 1 (.slice B c.length cap) c.length (c.map (.int .i64))])) (fun _ v8 _ => (14 - intOf v8).toNat)
  case atStart => exact ⟨0, 1, [], _, _, by omega, by decide, by decide, rfl, rfl, rfl, by simp, fun x hx => by simp at hx, HS1⟩
  case round =>
    clear HS1
    obtain ⟨k, z, c, B, cap, hk, hz1, hz13, hkz, rfl, rfl, hck, HI, HS⟩ := hrel
    by_cases hlt : z ≤ n
    · have dz : decide (z ≤ n) = true := decide_eq_true hlt
      have hz12 : z ≤ 12 := by omega
      have hk2 : k + 1 ≤ 12 := by have := hkz.out; omega
      have hw1 : IntKind.i64.wrap (z + 1) = z + 1 := IntWalk.i64_in _ (by omega)
      have hkz2 : Hid (((k + 1 : Nat) : Int) + 1 = z + 1) := by unfold Hid; have := hkz.out; omega
      clear hlt hkz
      go_wp2_with fail
      refine (hle.out _).mono ?_
      rintro e w1 ⟨rfl, rfl⟩
      go_wp2_with fail
      refine (cur_one 2 _ g ca cl cc _ HS.out.cur (by omega) (by omega)).mono ?_
      rintro e w2 ⟨_, ⟨bq, rfl⟩, rfl, hi2, hc2⟩
      have S2 := Lib.hid (HS.out.turn hi2 hc2)
      clear HS hi2 hc2
      by_cases hb : bq = true ∧ c.length < 5
      · obtain ⟨rfl, h5⟩ := hb
        have h5i : (c.length : Int) < 5 := by omega
        have S3 := S2.out.alloc_box #[.int .i64 z] 3
        have kB := S3.cell (i := 0) rfl (o := 0) rfl
        replace S3 := Lib.hid S3
        clear S2
        go_wp2_with (at_builtin; refine wpList_append_src rfl _ _ rfl Tryz.underlying35 hi0 hy0 hy1 hy2 rfl (by decide) _ _ _ rfl (S3.out.own (i := 1) rfl) _ 1 1 [.int .i64 z] rfl (Src.one kB) (by simp [Value.oneCell']) ?c3 ?c4 ?_)
        case c3 => unfold maxLen; omega
        case c4 => omega
        intro vY wY hownY hgY hatY
        have S4 := (S3.out.own_push (i := 1) rfl (bb _) hownY hgY (by simpa using hatY)).tail
        obtain ⟨aY, cY, rfl⟩ := own_slice hownY
        have S5 := Lib.hid (ownI_snocC (d := c) (x := z) S4)
        clear S3 S4 kB hownY hgY hatY
        have hlen : c.length + 1 = (c ++ [z]).length := by simp
        rw [hlen]
        replace hlen := Lib.hid hlen
        have hI2 : Hid (AllI (c ++ [z])) := HI.out.snoc (by unfold I64; omega)
        have hl2 : (c ++ [z]).length ≤ 5 := by rw [← hlen.out]; omega
        clear HI hlen hck h5 h5i
        generalize c ++ [z] = c2 at *
        go_wp2_with fail
        go_roundw
        case rel => exact ⟨k + 1, z + 1, c2, aY, cY, hk2, by omega, by omega, hkz2, rfl, rfl, hl2, hI2, S5.out.mono (by omega)⟩
        case measure => simp [intOf]; omega
      · cases bq
        · go_wp2_with fail
          go_roundw
          case rel => exact ⟨k + 1, z + 1, c, B, cap, hk2, by omega, by omega, hkz2, rfl, rfl, hck, HI, S2.out.mono (by omega)⟩
          case measure => simp [intOf]; omega
        · have h5i : ¬ (c.length : Int) < 5 := fun h => hb ⟨rfl, by omega⟩
          clear hb
          go_wp2_with fail
          go_roundw
          case rel => exact ⟨k + 1, z + 1, c, B, cap, hk2, by omega, by omega, hkz2, rfl, rfl, hck, HI, S2.out.mono (by omega)⟩
          case measure => simp [intOf]; omega
    · have dz : decide (z ≤ n) = false := decide_eq_false hlt
      have HS2 := Lib.hid (HS.out.mono (A' := 100) (by omega))
      clear HS hlt
      go_wp2_with fail
      refine (hle.out _).mono ?_
      rintro e w1 ⟨rfl, rfl⟩
      clear hle hkz
      go_wp2_with fail
      refine (cur_pick_at (lo := 0) (hi := 23) (n := 24) HS2.out.cur (by omega) (by omega) (by omega) (by omega) (by omega)).mono ?_
      rintro e w2 ⟨_, ⟨x, hx0, hx1, rfl⟩, rfl, hi2, hc2⟩
      have S2 := Lib.hid (HS2.out.turn hi2 hc2)
      clear HS2 hi2 hc2
      have hx5 : x = 0 ∨ x = 1 ∨ 1 < x := by omega
      rcases hx5 with rfl | rfl | hx5
      · have S3 := Lib.hid (S2.out.alloc (.cells #[.int .i64 0, .int .i64 1, .int .i64 13] 3))
        have hgl2 := S2.out.cur.lt
        have hcall := Lib.hid (cur_among 0 13 w2.heap.size 0 3 3 _ g ca cl cc _ S3.out.cur (by omega) (by decide) (by decide) (ints_new (by simp) fun j hj => by
          match j, hj with
          | 0, _ => exact ⟨_, rfl, by omega, by omega⟩
          | 1, _ => exact ⟨_, rfl, by omega, by omega⟩
          | 2, _ => exact ⟨_, rfl, by omega, by omega⟩) (by omega))
        clear S2 hgl2
        go_wp2_with fail
        refine hcall.out.mono ?_
        rintro e w3 ⟨_, ⟨y, hy5, hy6, rfl⟩, rfl, hi3, hc3⟩
        have S2 := Lib.hid (S3.out.turn hi3 hc3)
        clear S3 hcall hi3 hc3
        have S3 := S2.out.alloc_box #[.int .i64 y] 3
        have kB := S3.cell (i := 0) rfl (o := 0) rfl
        replace S3 := Lib.hid S3
        clear S2
        go_wp2_with (at_builtin; refine wpList_append_src rfl _ _ rfl Tryz.underlying35 hi0 hy0 hy1 hy2 rfl (by decide) _ _ _ rfl (S3.out.own (i := 1) rfl) _ 1 1 [.int .i64 y] rfl (Src.one kB) (by simp [Value.oneCell']) ?c3 ?c4 ?_)
        case c3 => unfold maxLen; omega
        case c4 => omega
        intro vY wY hownY hgY hatY
        have S4 := (S3.out.own_push (i := 1) rfl (bb _) hownY hgY (by simpa using hatY)).tail
        obtain ⟨aY, cY, rfl⟩ := own_slice hownY
        have S5 := Lib.hid (ownI_snocC (d := c) (x := y) S4)
        clear S3 S4 kB hownY hgY hatY
        have hlen : c.length + 1 = (c ++ [y]).length := by simp
        rw [hlen]
        replace hlen := Lib.hid hlen
        have hI2 : Hid (AllI (c ++ [y])) := HI.out.snoc (by unfold I64; omega)
        have hl2 : (c ++ [y]).length ≤ 7 := by rw [← hlen.out]; omega
        clear HI hlen hck
        generalize c ++ [y] = c2 at *
        go_wp2_with fail
        refine (cur_one 2 _ g ca cl cc _ S5.out.cur (by omega) (by omega)).mono ?_
        rintro e w9 ⟨_, ⟨bq, rfl⟩, rfl, hi9, hc9⟩
        have T9 := S0.out.cs_call (S5.out.turn hi9 hc9) hcH.out hs
        have T8 := Lib.hid (Sp.pick (qs := [Own 3 1 (.slice aY c2.length cY) c2.length (c2.map (.int .i64))]) [0] T9 rfl)
        clear S5 hi9 hc9 T9 S0
        go_wp2_with fail
        exact bodyPost_ret (v := .tuple #[.int .i64 vars, .slice aY c2.length cY, .bool bq]) (by simp [results, Tryz.results13, go_sem]) rfl ⟨vars, aY, cY, c2, bq, rfl, hv0, hv1, hl2, hI2.out, T8.out⟩
      · go_wp2_with fail
        refine (l4To6_any _).mono ?_
        rintro e w3 ⟨B6, c6, rfl, T6⟩
        have S5 : Hid (CS wc g ca cl cc _ w3 [Own 3 1 (.slice B6 ([1, 2, 3, 4, 5, 6] : List Int).length c6) ([1, 2, 3, 4, 5, 6] : List Int).length (([1, 2, 3, 4, 5, 6] : List Int).map (.int .i64)), Own 3 1 (.slice B c.length cap) c.length (c.map (.int .i64))]) := S2.out.seq T6
        have hI2 : Hid (AllI [1, 2, 3, 4, 5, 6]) := fun x hx => by
          unfold I64
          simp only [List.mem_cons, List.mem_nil_iff, or_false] at hx
          omega
        have hl2 : ([1, 2, 3, 4, 5, 6] : List Int).length ≤ 7 := by decide
        have hl6 : (6 : Nat) = ([1, 2, 3, 4, 5, 6] : List Int).length := rfl
        rw [hl6]
        clear S2 T6 HI hck hl6
        generalize ([1, 2, 3, 4, 5, 6] : List Int) = c2 at *
        go_wp2_with fail
        refine (cur_one 2 _ g ca cl cc _ S5.out.cur (by omega) (by omega)).mono ?_
        rintro e w9 ⟨_, ⟨bq, rfl⟩, rfl, hi9, hc9⟩
        have T9 := S0.out.cs_call (S5.out.turn hi9 hc9) hcH.out hs
        have T8 := Lib.hid (Sp.pick (qs := [Own 3 1 (.slice B6 c2.length c6) c2.length (c2.map (.int .i64))]) [0] T9 rfl)
        clear S5 hi9 hc9 T9 S0
        go_wp2_with fail
        exact bodyPost_ret (v := .tuple #[.int .i64 vars, .slice B6 c2.length c6, .bool bq]) (by simp [results, Tryz.results13, go_sem]) rfl ⟨vars, B6, c6, c2, bq, rfl, hv0, hv1, hl2, hI2.out, T8.out⟩
      · have x0 : (x == 0) = false := by simp; omega
        have x1 : (x == 1) = false := by simp; omega
        have hl2 : c.length ≤ 7 := by omega
        go_wp2_with fail
        refine (cur_one 2 _ g ca cl cc _ S2.out.cur (by omega) (by omega)).mono ?_
        rintro e w9 ⟨_, ⟨bq, rfl⟩, rfl, hi9, hc9⟩
        have T9 := S0.out.cs_call (S2.out.turn hi9 hc9) hcH.out hs
        have T8 := Lib.hid (Sp.pick (qs := [Own 3 1 (.slice B c.length cap) c.length (c.map (.int .i64))]) [0] T9 rfl)
        clear S2 hi9 hc9 T9 S0
        go_wp2_with fail
        exact bodyPost_ret (v := .tuple #[.int .i64 vars, .slice B c.length cap, .bool bq]) (by simp [results, Tryz.results13, go_sem]) rfl ⟨vars, B, cap, c, bq, rfl, hv0, hv1, hl2, HI.out, T8.out⟩
end Go.Proofs.YtahbepajeplcmaaGreat

/- Contract: the sides of a Cnf exchanged, in the program. -/
namespace Go.Proofs.YtahbepajeplcmaaGreat
open Go.RowKit

/-- Exchanged sides. -/
def swapC (xss : List (List Int)) (k : Nat) : List (List Int) := xss.drop k ++ xss.take k
/-- A Cnf, a number and whether they are told; the Cnf can be read. -/
def SwapR (w : World) (va : Int) (ys : List (List Int)) (nn : Int) (ok : Bool) (e : Ending) (w' : World) : Prop :=
  ∃ B cc F, e = .returned (.tuple #[.agg #[.int .i64 va, .slice B ys.length cc], .int .i64 nn, .bool ok]) ∧ (Ty.slice Ty.int).row false w' (.slice B ys.length cc) ys F ∧ Below w.heap.size w w'

/- left out: the seat has no impl.SwapSides -/

/- left out: the seat has no impl.SwapSides -/
end Go.Proofs.YtahbepajeplcmaaGreat

/- Contract: two Cnfs as one, in the program. -/
namespace Go.Proofs.YtahbepajeplcmaaGreat
open Go.RowKit

theorem isCnf_q {vars : Int} {v : Value} {xss : List (List Int)} {F : List Nat} {w : World} {q : Bool} (hx : (Ty.slice Ty.int).row false w v xss F) (h : goodB vars xss = q) :
    Calls Tryz.prog 32 #[.agg #[.int .i64 vars, v]] w fun e w' => e = .returned (.bool q) ∧ Below w.heap.size w w' := h ▸ implIsCnf_any vars v xss F w hx

set_option maxRecDepth 100000 in
set_option maxHeartbeats 8000000 in
theorem bothYes_any (va vb : Int) (A1 A2 : Option Addr) (p1 p2 : Nat) (xss yss : List (List Int)) (F1 F2 : List Nat) (w : World) (hx : (Ty.slice Ty.int).row false w (.slice A1 xss.length p1) xss F1) (hy : (Ty.slice Ty.int).row false w (.slice A2 yss.length p2) yss F2) (h1 : goodB va xss = true) (h2 : goodB vb yss = true) :
    Calls Tryz.prog 11 #[.agg #[.int .i64 va, .slice A1 xss.length p1], .agg #[.int .i64 vb, .slice A2 yss.length p2]] w (CnfR w (giveV (max va vb) (xss ++ yss)) (giveL (max va vb) (xss ++ yss)) (goodB (max va vb) (xss ++ yss))) := by
  obtain ⟨_, _, e1, hI1⟩ := cls_row hx
  cases e1
  obtain ⟨_, _, e1, hI2⟩ := cls_row hy
  cases e1
  have g1 := good_cnf h1
  have g2 := good_cnf h2
  obtain ⟨us1, hv1, hs1, ho1⟩ := cls_src hI1
  obtain ⟨us2, hv2, hs2, ho2⟩ := cls_src hI2
  have hV := Lib.hid (hv1.append hv2)
  have S0 := (((Sp.start w).alloc_box #[.int .i64 va, .slice A1 xss.length p1] 28).alloc_box #[.int .i64 vb, .slice A2 yss.length p2] 28).alloc_box #[.int .i64 0, .slice none 0 0] 28
  simp only [World.size_alloc] at S0
  have hi1 := Lib.hid (fun W (h : Below w.heap.size w W) => isCnf_q (Ty.row_below hx h (Ty.row_lt hx)) h1)
  have hi2 := Lib.hid (fun W (h : Below w.heap.size w W) => isCnf_q (Ty.row_below hy h (Ty.row_lt hy)) h2)
  have hcl := Lib.hid (fun E ec W (h : ClsAt W E (xss ++ yss)) => cloneLists_any (xss ++ yss) E ec W h (by rw [List.length_append]; omega) (fun c hc => by
    rcases List.mem_append.1 hc with h | h
    · have := (g1.2.2.2 c h).2; omega
    · have := (g2.2.2.2 c h).2; omega))
  have hyl : Hid ((xss ++ yss).length = xss.length + yss.length) := by unfold Hid; simp
  have hl1 : xss.length ≤ 60 := g1.2.1
  have hl2 : yss.length ≤ 60 := g2.2.1
  have c0 := S0.cell (i := 2) rfl (o := 0) rfl
  have c1 := S0.cell (i := 2) rfl (o := 1) rfl
  replace S0 := Lib.hid S0
  replace hs1 := Lib.hid hs1
  replace hs2 := Lib.hid hs2
  replace ho1 := Lib.hid ho1
  replace ho2 := Lib.hid ho2
  clear hx hy h1 h2 hI1 hI2 g1 g2 hv1 hv2
  generalize xss ++ yss = zss at *
  go_enter Tryz.func11, Tryz.ntmps11
  go_wp2_with fail
  refine (hi1.out _ S0.out.below).mono ?_
  rintro e w1 ⟨rfl, hb1⟩
  have S1 := S0.out.grow hb1
  have d0 := S1.cell (i := 1) rfl (o := 0) rfl
  have d1 := S1.cell (i := 1) rfl (o := 1) rfl
  replace S1 := Lib.hid S1
  clear S0 hb1 c0 c1 hi1
  go_wp2_with fail
  refine (hi2.out _ S1.out.below).mono ?_
  rintro e w2 ⟨rfl, hb2⟩
  have S2 := S1.out.grow hb2
  have c0 := S2.cell (i := 2) rfl (o := 0) rfl
  have c1 := S2.cell (i := 2) rfl (o := 1) rfl
  have d0 := S2.cell (i := 1) rfl (o := 0) rfl
  have d1 := S2.cell (i := 1) rfl (o := 1) rfl
  replace S2 := Lib.hid S2.drew
  clear S1 hb2 hi2
  go_wp2_with fail
  refine wp_region_tail_lit (S := (fun w' => w'.cell? ⟨w.heap.size, 0, none⟩ = some (.int .i64 va) ∧ w'.cell? ⟨w.heap.size, 1, none⟩ = some (.slice A1 xss.length p1) ∧ w'.cell? ⟨w.heap.size + 1, 0, none⟩ = some (.int .i64 vb) ∧ w'.cell? ⟨w.heap.size + 1, 1, none⟩ = some (.slice A2 yss.length p2))) 14 [false, false, false, false, false, false, false, false, false, false, false, false, false, false, false] (by kernel_rfl) (by kernel_rfl) (by kernel_rfl) ?_ ?_
  · exact ⟨c0, c1, d0, d1⟩
  intro hSc
  (refine walkT_take (i := 0) (v := ?_) rfl (by kernel_rfl) (by decide) (by kernel_rfl) (by kernel_rfl) (fun _ _ _ h => h) (Or.inl ⟨by rfl, ?_⟩) (by assumption) ?_; rotate_left; (focus (intro w hSw; (try dsimp only at hSw); go_simp; (try with_reducible rfl); done)); (try simp only [put_rules]))
  (refine walkT_take (i := 1) (v := ?_) rfl (by kernel_rfl) (by decide) (by kernel_rfl) (by kernel_rfl) (fun _ _ _ h => h) (Or.inl ⟨by rfl, ?_⟩) (by assumption) ?_; rotate_left; (focus (intro w hSw; (try dsimp only at hSw); go_simp; (try with_reducible rfl); done)); (try simp only [put_rules]))
  (refine walkT_take (i := 2) (v := ?_) rfl (by kernel_rfl) (by decide) (by kernel_rfl) (by kernel_rfl) (fun _ _ _ h => h) (Or.inl ⟨by rfl, ?_⟩) (by assumption) ?_; rotate_left; (focus (intro w hSw; (try dsimp only at hSw); go_simp; (try with_reducible rfl); done)); (try simp only [put_rules]))
  (refine walkT_take (i := 3) (v := ?_) rfl (by kernel_rfl) (by decide) (by kernel_rfl) (by kernel_rfl) (fun _ _ _ h => h) (Or.inl ⟨by rfl, ?_⟩) (by assumption) ?_; rotate_left; (focus (intro w hSw; (try dsimp only at hSw); go_simp; (try with_reducible rfl); done)); (try simp only [put_rules]))
  (refine walkT_take (i := 4) (v := ?_) rfl (by kernel_rfl) (by decide) (by kernel_rfl) (by kernel_rfl) (fun _ _ _ h => h) (Or.inl ⟨by rfl, ?_⟩) (by assumption) ?_; rotate_left; (focus (intro w hSw; (try dsimp only at hSw); go_simp; (try with_reducible rfl); done)); (try simp only [put_rules]))
  (refine walkT_take (i := 5) (v := ?_) rfl (by kernel_rfl) (by decide) (by kernel_rfl) (by kernel_rfl) (fun _ _ _ h => h) (Or.inl ⟨by rfl, ?_⟩) (by assumption) ?_; rotate_left; (focus (intro w hSw; (try dsimp only at hSw); go_simp; (try with_reducible rfl); done)); (try simp only [put_rules]))
  (refine walkT_take (i := 6) (v := ?_) rfl (by kernel_rfl) (by decide) (by kernel_rfl) (by kernel_rfl) (fun _ _ _ h => h) (Or.inl ⟨by rfl, ?_⟩) (by assumption) ?_; rotate_left; (focus (intro w hSw; (try dsimp only at hSw); go_simp; (try with_reducible rfl); done)); (try simp only [put_rules]))
  (refine walkT_take (i := 7) (v := ?_) rfl (by kernel_rfl) (by decide) (by kernel_rfl) (by kernel_rfl) (fun _ _ _ h => h) (Or.inl ⟨by rfl, ?_⟩) (by assumption) ?_; rotate_left; (focus (intro w hSw; (try dsimp only at hSw); go_simp; (try with_reducible rfl); done)); (try simp only [put_rules]))
  (refine walkT_take (i := 8) (v := ?_) rfl (by kernel_rfl) (by decide) (by kernel_rfl) (by kernel_rfl) (fun _ _ _ h => h) (Or.inl ⟨by rfl, ?_⟩) (by assumption) ?_; rotate_left; (focus (intro w hSw; (try dsimp only at hSw); go_simp; (try with_reducible rfl); done)); (try simp only [put_rules]))
  (refine walkT_ready (rs := [9]) (by kernel_rfl) (by simp) (by decide) ?_; refine AllT.cons rfl (fun K hK => ?_) AllT.nil)
  go_simp
  have S3 := S2.out.alloc_box #[.slice A1 xss.length p1, .slice A2 yss.length p2] 26
  have hco := Lib.hid (concatL_any w2.heap.size A1 A2 xss.length yss.length p1 p2 us1 us2 _ (S3.cell (i := 0) rfl (o := 0) rfl) (S3.cell (i := 0) rfl (o := 1) rfl) (hs1.out.grow S3.below) (hs2.out.grow S3.below) ho1.out ho2.out (by omega) (by omega))
  replace S3 := Lib.hid S3
  clear S2 hs1 hs2 ho1 ho2 c0 c1 d0 d1
  refine hK.out _ _ ⟨S3.out.cell (i := 3) rfl (o := 0) rfl, S3.out.cell (i := 3) rfl (o := 1) rfl, S3.out.cell (i := 2) rfl (o := 0) rfl, S3.out.cell (i := 2) rfl (o := 1) rfl⟩ (fun _ => ?_)
  clear hK hSc
  (try simp only [put_rules])
  (refine walkT_ready (rs := [10]) (by kernel_rfl) (by simp) (by decide) ?_; refine AllT.cons rfl (fun K hK => ?_) AllT.nil)
  go_simp
  go_at_call 34
  refine hco.out.mono ?_
  rintro e w5 ⟨E, ec, rfl, T5⟩
  have S4 := S3.out.seq T5
  have hown := S4.own (i := 0) rfl
  rw [← hyl.out] at hown
  have hcl2 := hcl.out E ec _ ((hV.out.keep S4.below).own hown)
  rw [hyl.out] at hcl2
  replace hcl2 := Lib.hid hcl2
  replace S4 := Lib.hid S4
  clear S3 T5 hco hcl hown hV
  go_wp2_with fail
  refine hK.out _ _ ⟨S4.out.cell (i := 4) rfl (o := 0) rfl, S4.out.cell (i := 4) rfl (o := 1) rfl, S4.out.cell (i := 3) rfl (o := 0) rfl, S4.out.cell (i := 3) rfl (o := 1) rfl⟩ (fun _ => ?_)
  clear hK
  (try simp only [put_rules])
  (refine walkT_ready (rs := [11]) (by kernel_rfl) (by simp) (by decide) ?_; refine AllT.cons rfl (fun K hK => ?_) AllT.nil)
  go_simp
  go_at_call 33
  refine hcl2.out.mono ?_
  rintro e w6 ⟨R, rc, cs, rfl, T6⟩
  have S5 := Lib.hid (S4.out.seq T6)
  clear S4 T6 hcl2
  go_wp2_with fail
  refine hK.out _ _ ⟨S5.out.cell (i := 5) rfl (o := 0) rfl, S5.out.cell (i := 5) rfl (o := 1) rfl, S5.out.cell (i := 4) rfl (o := 0) rfl, S5.out.cell (i := 4) rfl (o := 1) rfl⟩ (fun _ => ?_)
  clear hK
  (try simp only [put_rules])
  (refine walkT_take (i := 12) (v := ?_) rfl (by kernel_rfl) (by decide) (by kernel_rfl) (by kernel_rfl) (fun _ _ _ h => h) (Or.inl ⟨by rfl, ?_⟩) (by assumption) ?_; rotate_left; (focus (intro w hSw; (try dsimp only at hSw); go_simp; (try with_reducible rfl); done)); (try simp only [put_rules]))
  (refine walkT_ready (rs := [13]) (by kernel_rfl) (by simp) (by decide) ?_; refine AllT.cons rfl (fun K hK => ?_) AllT.nil)
  go_simp
  have S6 := Lib.hid (S5.out.alloc_box #[.int .i64 (max va vb), .slice R zss.length rc] 49)
  refine hK.out _ _ ⟨S6.out.cell (i := 6) rfl (o := 0) rfl, S6.out.cell (i := 6) rfl (o := 1) rfl, S6.out.cell (i := 5) rfl (o := 0) rfl, S6.out.cell (i := 5) rfl (o := 1) rfl⟩ (fun _ => ?_)
  clear hK S5
  (try simp only [put_rules])
  (refine walkT_done (by kernel_rfl) ?_)
  simp only [List.drop_succ_cons, List.drop_zero]
  obtain ⟨F, hr, -, -⟩ := S6.out.rows_done (i := 1) rfl
  have hcn := Lib.hid (famCnf_any w6.heap.size (max va vb) R rc zss F _ (S6.out.cell (i := 0) rfl (o := 0) rfl) (S6.out.cell (i := 0) rfl (o := 1) rfl) (Ty.row_down hr))
  clear hr
  generalize hgo : goodB (max va vb) zss = g at *
  go_wp2_with fail
  refine hcn.out.mono ?_
  rintro e w7 ⟨va', A', n', c'', rfl, hb4, h1, h2⟩
  have S7 := S6.out.grow hb4
  replace h1 := Lib.hid h1
  replace h2 := Lib.hid h2
  have r0 := S7.cell (i := 4) rfl (o := 0) rfl
  have r1 := S7.cell (i := 4) rfl (o := 1) rfl
  have f0 := S7.frozen (i := 4) rfl 0
  have f1 := S7.frozen (i := 4) rfl 1
  have SF := (S7.store (i := 4) rfl 0 (.int .i64 va')).store (i := 4) rfl 1 (.slice A' n' c'')
  have j0 := SF.cell (i := 4) rfl (o := 0) rfl
  have j1 := SF.cell (i := 4) rfl (o := 1) rfl
  have SF2 := Lib.hid (Sp.pick [1] SF rfl)
  clear S6 S7 SF hcn hb4
  go_wp2_with fail
  subst hgo
  exact bodyPost_ret (v := .tuple #[.agg #[.int .i64 va', .slice A' n' c''], .bool (goodB (max va vb) zss)]) (by simp [results, Tryz.results11, go_sem, j0, j1]) rfl (CnfR.of SF2.out h1.out h2.out)
end Go.Proofs.YtahbepajeplcmaaGreat
