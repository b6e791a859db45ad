/- Lemmas and contracts for a law, put together out of several texts: CyE RsA CyF GuH GuI. -/
import Derived.Test.YtkhopkonddgicaaMg8
import Derived.Test.YtkhopkonddgicaaMg7
import Derived.Test.YtkhopkonddgicaaMg2
import Derived.Lib.Hide
import Derived.Deep.QuietTactic
import Derived.BigQuiet
import Derived.Lib.QuietBelow
import Derived.Deep.DeepCutAuto
/- Contract: a drawn Cnf. -/
namespace Go.Proofs.Ytkhopkonddgicaa
open Go.RowKit

set_option maxRecDepth 100000 in
set_option maxHeartbeats 16000000 in
theorem cur_cnf (A g : Nat) (ca : Option Addr) (cl cc : Nat) (w : World) (h : CurIs A g ca cl cc w) (hA : A ≤ 30000000) :
    Calls Try.prog 80 #[.pointer (some ⟨g, 0, none⟩)] w (CnfPost (A + 2000) g ca cl cc w) := by
  have hg := h.lt
  have S0 := Lib.hid ((CS.start h).alloc_box #[.int .i64 0, .slice none 0 0] 26)
  obtain ⟨i1, hi, hz0, hz1, hz2⟩ := info_parts infoRow
  clear h
  have hcur := Lib.hid S0.out.cur
  go_enter Try.func80, Try.ntmps80
  go_wp2_with fail
  refine (cur_one 4 A g ca cl cc _ hcur.out (by omega) (by omega)).mono ?_
  rintro e w1 ⟨_, ⟨q, rfl⟩, rfl, hi1, hc1⟩
  have S1 := Lib.hid (S0.out.turn hi1 hc1)
  clear S0 hcur hi1 hc1
  cases q
  case true =>
    have hh := Lib.hid (cur_hard _ g ca cl cc _ S1.out.cur (by omega))
    go_wp2_with fail
    refine hh.out.mono ?_
    rintro e w2 ⟨vars, B, cap, cs, ys, rfl, hv0, hv1, hyl, HC, T2⟩
    replace HC := Lib.hid HC
    have S2 := S1.out.comp T2
    have r0 := S2.cell (i := 1) rfl (o := 0) rfl
    have r1 := S2.cell (i := 1) rfl (o := 1) rfl
    have f0 := S2.frozen (i := 1) rfl 0
    have f1 := S2.frozen (i := 1) rfl 1
    have SF := (S2.store (i := 1) rfl 0 (.int .i64 vars)).store (i := 1) rfl 1 (.slice B ys.length cap)
    have j0 := SF.cell (i := 1) rfl (o := 0) rfl
    have j1 := SF.cell (i := 1) rfl (o := 1) rfl
    have hR := Lib.hid ((CS.front (qs := [_]) SF).mono (show _ ≤ A + 2000 by omega))
    clear SF S2 S1 T2 hh
    go_wp2_with fail
    exact bodyPost_ret (v := .agg #[.int .i64 vars, .slice B ys.length cap]) (by simp [results, Try.results80, go_sem, j0, j1]) rfl ⟨vars, B, cap, cs, ys, rfl, by omega, by omega, by omega, HC.out, hR.out⟩
  case false =>
    have hgl : g < w1.heap.size := S1.out.cur.lt
    have hcall := Lib.hid (cur_among (2) 5 w1.heap.size 0 5 5 _ g ca cl cc (w1.alloc (.cells #[.int .i64 2, .int .i64 3, .int .i64 3, .int .i64 4, .int .i64 5] 3)) (S1.out.cur.grow (bal (bb _) _)) (by omega) (by decide) (by decide) (ints_new rfl fun j hj => by
      match j, hj with
      | 0, _ => exact ⟨_, rfl, by decide, by decide⟩
      | 1, _ => exact ⟨_, rfl, by decide, by decide⟩
      | 2, _ => exact ⟨_, rfl, by decide, by decide⟩
      | 3, _ => exact ⟨_, rfl, by decide, by decide⟩
      | 4, _ => exact ⟨_, rfl, by decide, by decide⟩
      ) (by omega))
    go_wp2_with fail
    refine hcall.out.mono ?_
    rintro e w2 ⟨_, ⟨vars, hva0, hva1, rfl⟩, rfl, hi2, hc2⟩
    have S2 := (S1.out.alloc _).turn hi2 hc2
    have S3 := (S2.rows_made Ty.int 45).alloc_box #[.int .i64 vars, .slice (some ⟨w2.heap.size, 0, none⟩) 0 0] 26
    simp only [World.size_alloc] at S3
    obtain ⟨fb, hfb⟩ : ∃ fb, w2.heap.size + 1 = fb := ⟨_, rfl⟩
    rw [hfb] at S3
    have S4 : Hid (CS w g ca cl cc (A + 2 + 2) _ [Rows Ty.int 45 (.slice (some ⟨w2.heap.size, 0, none⟩) ([] : List (List Int)).length 0) [] ([] : List (List Int)), Box fb 26 #[.int .i64 vars, .slice (some ⟨w2.heap.size, 0, none⟩) ([] : List (List Int)).length 0], Box w.heap.size 26 #[.int .i64 0, .slice none 0 0]]) := S3.swap
    have hcur := Lib.hid S4.out.cur
    clear S1 S2 S3 hi2 hc2 hcall
    go_wp2_with fail
    refine (cur_pick_at (lo := 0) (hi := 9) hcur.out (by omega) (by omega) (by omega) (by omega) (by omega)).mono ?_
    rintro e w3 ⟨_, ⟨x, hx0, hx1, rfl⟩, rfl, hi3, hc3⟩
    obtain ⟨m0, rfl⟩ := Int.eq_ofNat_of_zero_le hx0
    have hm9 : m0 ≤ 9 := by omega
    have S5 := Lib.hid ((S4.out.turn hi3 hc3).mono (show _ ≤ A + 20 + 100 * (9 - m0) by omega))
    clear S4 hcur hi3 hc3 hx0 hx1
    go_wp2_with fail
    go_loopw [4] (fun vv wr => ∃ (m : Nat) (B : Option Addr) (cap : Nat) (cs : List Value) (ys : List (List Int)), m ≤ 9 ∧ vv = .int .i64 m ∧ ys.length + m ≤ 9 ∧ Hid (SmallR 13 ys) ∧ Hid (CS w g ca cl cc (A + 20 + 100 * (9 - m)) wr [Rows Ty.int 45 (.slice B ys.length cap) cs ys, Box fb 26 #[.int .i64 vars, .slice B ys.length cap], Box w.heap.size 26 #[.int .i64 0, .slice none 0 0]])) (fun vv _ => (intOf vv).toNat)
    case atStart => exact ⟨m0, _, _, [], [], hm9, rfl, by simpa using hm9, (fun c hc => by simp at hc), S5⟩
    case round =>
      clear S5
      obtain ⟨m, B, cap, cs, ys, hm2, rfl, hyl, HC, HS⟩ := hrel
      by_cases hm : 0 < m
      · have e0 : decide ((0 : Int) < (m : Int)) = true := decide_eq_true (by omega)
        have hmw : IntKind.i64.wrap ((m : Int) - 1) = ((m - 1 : Nat) : Int) := by rw [IntWalk.i64_in _ (by omega)]; omega
        as_aux_lemma =>
          have l0 := HS.out.cell (i := 1) rfl (o := 0) rfl
          have l1 := HS.out.cell (i := 1) rfl (o := 1) rfl
          go_wp2_with fail
          refine wp_region_tail_lit (S := (fun w' => w'.cell? ⟨fb, 0, none⟩ = some (.int .i64 vars) ∧ w'.cell? ⟨fb, 1, none⟩ = some (.slice B ys.length cap))) 7 [false, false, false, false, false, false, false, false, false, false] (by kernel_rfl) (by kernel_rfl) (by kernel_rfl) ?_ ?_
          · exact ⟨l0, l1⟩
          intro hSc
          (refine walkT_take (i := 0) (v := ?_) rfl (by kernel_rfl) (by decide) (by kernel_rfl) (by kernel_rfl) (fun _ _ _ h => h) (Or.inl ⟨by rfl, ?_⟩) (by assumption) ?_; rotate_left; (focus (intro w hSw; (try dsimp only at hSw); go_simp; (try with_reducible rfl); done)); (try simp only [put_rules]))
          (refine walkT_take (i := 1) (v := ?_) rfl (by kernel_rfl) (by decide) (by kernel_rfl) (by kernel_rfl) (fun _ _ _ h => h) (Or.inl ⟨by rfl, ?_⟩) (by assumption) ?_; rotate_left; (focus (intro w hSw; (try dsimp only at hSw); go_simp; (try with_reducible rfl); done)); (try simp only [put_rules]))
          (refine walkT_take (i := 2) (v := ?_) rfl (by kernel_rfl) (by decide) (by kernel_rfl) (by kernel_rfl) (fun _ _ _ h => h) (Or.inl ⟨by rfl, ?_⟩) (by assumption) ?_; rotate_left; (focus (intro w hSw; (try dsimp only at hSw); go_simp; (try with_reducible rfl); done)); (try simp only [put_rules]))
          (refine walkT_take (i := 3) (v := ?_) rfl (by kernel_rfl) (by decide) (by kernel_rfl) (by kernel_rfl) (fun _ _ _ h => h) (Or.inl ⟨by rfl, ?_⟩) (by assumption) ?_; rotate_left; (focus (intro w hSw; (try dsimp only at hSw); go_simp; (try with_reducible rfl); done)); (try simp only [put_rules]))
          (refine walkT_take (i := 4) (v := ?_) rfl (by kernel_rfl) (by decide) (by kernel_rfl) (by kernel_rfl) (fun _ _ _ h => h) (Or.inl ⟨by rfl, ?_⟩) (by assumption) ?_; rotate_left; (focus (intro w hSw; (try dsimp only at hSw); go_simp; (try with_reducible rfl); done)); (try simp only [put_rules]))
          (refine walkT_ready (rs := [5]) (by kernel_rfl) (by simp) (by decide) ?_; refine AllT.cons rfl (fun K hK => ?_) AllT.nil)
          go_simp
          go_at_call 105
          have S3 := HS.out.drew
          have hcall := Lib.hid (cur_clause vars (by omega) _ g ca cl cc _ S3.cur (by omega))
          refine hcall.out.mono ?_
          rintro e w3 ⟨v, c, rfl, ho, hl, hW, hi3, hc3⟩
          have S4 := S3.comp (row_cs S3.cur hi3 hc3 ho)
          obtain ⟨B2, cap2, rfl⟩ := own_slice ho
          have S5 := Lib.hid (CS.own_to_row (ps := _) S4 (hW.i64 (by decide)))
          clear hcall S3 S4 HS l0 l1 hi3 hc3 ho
          go_wp2_with fail
          refine hK.out _ _ ⟨S5.out.cell (i := 2) rfl (o := 0) rfl, S5.out.cell (i := 2) rfl (o := 1) rfl⟩ (fun hS2 => ?_)
          clear hK hSc
          (try simp only [put_rules])
          (refine walkT_ready (rs := [6]) (by kernel_rfl) (by simp) (by decide) ?_; refine AllT.cons rfl (fun K hK => ?_) AllT.nil)
          go_simp
          have hrows := Lib.hid ((S5.out.rows (i := 1) rfl).alloc (.cells #[.slice B2 c.length cap2] 45))
          have kB : (w3.alloc (.cells #[.slice B2 c.length cap2] 45)).cell? ⟨w3.heap.size, 0, none⟩ = some (.slice B2 c.length cap2) := cell_of_row _ _ _ _ _ _ (heap_alloc_new w3 _)
          have S6 := Lib.hid (S5.out.alloc (.cells #[.slice B2 c.length cap2] 45))
          refine hK.out _ _ ⟨S6.out.cell (i := 2) rfl (o := 0) rfl, S6.out.cell (i := 2) rfl (o := 1) rfl⟩ (fun hS3 => ?_)
          clear hK hS2
          (try simp only [put_rules])
          (refine walkT_done (by kernel_rfl) ?_)
          simp only [List.drop_succ_cons, List.drop_zero]
          (refine wpList_append_src rfl _ _ rfl Try.underlying24 hi hz0 hz1 hz2 rfl (by decide) _ ys.length _ rfl hrows.out _ 1 1 [.slice B2 c.length cap2] rfl (Src.one kB) (by simp [Value.oneCell']) (by unfold maxLen; omega) (by omega) ?_; intro vY wY hownY hgY hatY)
          have S7 := S5.out.rows_push (bal (bb _) _) hownY hgY hatY
          obtain ⟨aY, cY, rfl⟩ := own_slice hownY
          have b1 := S7.cell (i := 1) rfl (o := 1) rfl
          have q1 := S7.frozen (i := 1) rfl 1
          have hlen : ys.length + 1 = (ys ++ [c]).length := by simp
          have S8 : Hid (CS w g ca cl cc (A + 20 + 100 * (9 - (m - 1))) (wY.setCell ⟨fb, 1, none⟩ (.slice aY (ys.length + 1) cY)) [Rows Ty.int 45 (.slice aY (ys ++ [c]).length cY) (cs ++ [.slice B2 c.length cap2]) (ys ++ [c]), Box fb 26 #[.int .i64 vars, .slice aY (ys ++ [c]).length cY], Box w.heap.size 26 #[.int .i64 0, .slice none 0 0]]) := by
            unfold Hid; rw [← hlen]
            have := (S7.store (i := 1) rfl 1 (.slice aY (ys.length + 1) cY)).mono (show _ ≤ A + 20 + 100 * (9 - (m - 1)) by omega)
            rw [hlen] at this ⊢
            exact this
          have HC2 : Hid (SmallR 13 (ys ++ [c])) := fun y hy => by
            rcases List.mem_append.1 hy with hy | hy
            · exact HC.out y hy
            · obtain rfl : y = c := by simpa using hy
              exact ⟨hW.i64 (by decide), by omega⟩
          clear S5 S6 S7 hrows hownY hgY hatY kB hW HC
          replace hlen := Lib.hid hlen
          have hyl2 : (ys ++ [c]).length + (m - 1) ≤ 9 := by rw [← hlen.out]; omega
          go_wp2_with fail
          go_roundw
          case rel => exact ⟨m - 1, aY, cY, cs ++ [.slice B2 c.length cap2], ys ++ [c], by omega, rfl, hyl2, HC2, S8⟩
          case measure => simp [intOf]; omega
      · have e0 : decide ((0 : Int) < (m : Int)) = false := decide_eq_false (by omega)
        have S4 := Lib.hid (HS.out.mono (show _ ≤ A + 1000 by omega))
        have hcur := Lib.hid S4.out.cur
        clear HS
        go_wp2_with fail
        refine (cur_pick_at (lo := 0) (hi := 39) hcur.out (by omega) (by omega) (by omega) (by omega) (by omega)).mono ?_
        rintro e w5 ⟨_, ⟨x, hx0, hx1, rfl⟩, rfl, hi5, hc5⟩
        have S5 := Lib.hid (S4.out.turn hi5 hc5)
        clear S4 hcur hi5 hc5 e0
        have hx5 : x = 0 ∨ x = 1 ∨ x = 2 ∨ x = 3 ∨ 3 < x := by omega
        rcases hx5 with rfl | rfl | rfl | rfl | hx5
        · as_aux_lemma =>
          have hgl : g < w5.heap.size := S5.out.cur.lt
          have hcall := Lib.hid (cur_among (-1) 13 w5.heap.size 0 5 5 _ g ca cl cc (w5.alloc (.cells #[.int .i64 (-1), .int .i64 13, .int .i64 12, .int .i64 0, .int .i64 1] 3)) (S5.out.cur.grow (bal (bb _) _)) (by omega) (by decide) (by decide) (ints_new rfl fun j hj => by
            match j, hj with
            | 0, _ => exact ⟨_, rfl, by decide, by decide⟩
            | 1, _ => exact ⟨_, rfl, by decide, by decide⟩
            | 2, _ => exact ⟨_, rfl, by decide, by decide⟩
            | 3, _ => exact ⟨_, rfl, by decide, by decide⟩
            | 4, _ => exact ⟨_, rfl, by decide, by decide⟩
            ) (by omega))
          go_upto_region 10 with fail
          (first | go_values | go_skip | go_guarded | go_step | go_upon)
          (first | go_values | go_skip | go_guarded | go_step | go_upon)
          (first | go_values | go_skip | go_guarded | go_step | go_upon)
          (first | go_values | go_skip | go_guarded | go_step | go_upon)
          (first | go_values | go_skip | go_guarded | go_step | go_upon)
          refine bs_five _ _ _ _ _ ?_
          simp only [put_rules]
          go_wp2_with fail
          refine hcall.out.mono ?_
          rintro e w6 ⟨_, ⟨va, hva2, hva3, rfl⟩, rfl, hi6, hc6⟩
          have S6 := (S5.out.alloc _).turn hi6 hc6
          have q0 := S6.frozen (i := 1) rfl 0
          have d0 := S6.cell (i := 1) rfl (o := 0) rfl
          have S7 : Hid (CS w g ca cl cc (A + 1000 + 2 + 2) _ [Rows Ty.int 45 (.slice B ys.length cap) cs ys, Box fb 26 #[.int .i64 va, .slice B ys.length cap], Box w.heap.size 26 #[.int .i64 0, .slice none 0 0]]) := S6.store (i := 1) rfl 0 (.int .i64 va)
          clear S5 S6 hi6 hc6 hcall
          have l0 := S7.out.cell (i := 1) rfl (o := 0) rfl
          have l1 := S7.out.cell (i := 1) rfl (o := 1) rfl
          have r0 := S7.out.cell (i := 2) rfl (o := 0) rfl
          have r1 := S7.out.cell (i := 2) rfl (o := 1) rfl
          have f0 := S7.out.frozen (i := 2) rfl 0
          have f1 := S7.out.frozen (i := 2) rfl 1
          have SF := (S7.out.store (i := 2) rfl 0 (.int .i64 va)).store (i := 2) rfl 1 (.slice B ys.length cap)
          have j0 := SF.cell (i := 2) rfl (o := 0) rfl
          have j1 := SF.cell (i := 2) rfl (o := 1) rfl
          have hR := Lib.hid ((CS.front (qs := [_]) SF).mono (show _ ≤ A + 2000 by omega))
          clear SF S7
          go_wp2_with fail
          exact bodyPost_ret (v := .agg #[.int .i64 va, .slice B ys.length cap]) (by simp [results, Try.results80, go_sem, j0, j1]) rfl ⟨va, B, cap, cs, ys, rfl, by omega, by omega, by omega, HC.out, hR.out⟩
        · as_aux_lemma =>
          have HS := S5
          clear S5
          have l0 := HS.out.cell (i := 1) rfl (o := 0) rfl
          have l1 := HS.out.cell (i := 1) rfl (o := 1) rfl
          go_wp2_with fail
          refine wp_region_tail_lit (S := (fun w' => w'.cell? ⟨fb, 0, none⟩ = some (.int .i64 vars) ∧ w'.cell? ⟨fb, 1, none⟩ = some (.slice B ys.length cap))) 7 [false, false, false, false, false, false, false, false, false, false] (by kernel_rfl) (by kernel_rfl) (by kernel_rfl) ?_ ?_
          · exact ⟨l0, l1⟩
          intro hSc
          (refine walkT_take (i := 0) (v := ?_) rfl (by kernel_rfl) (by decide) (by kernel_rfl) (by kernel_rfl) (fun _ _ _ h => h) (Or.inl ⟨by rfl, ?_⟩) (by assumption) ?_; rotate_left; (focus (intro w hSw; (try dsimp only at hSw); go_simp; (try with_reducible rfl); done)); (try simp only [put_rules]))
          (refine walkT_take (i := 1) (v := ?_) rfl (by kernel_rfl) (by decide) (by kernel_rfl) (by kernel_rfl) (fun _ _ _ h => h) (Or.inl ⟨by rfl, ?_⟩) (by assumption) ?_; rotate_left; (focus (intro w hSw; (try dsimp only at hSw); go_simp; (try with_reducible rfl); done)); (try simp only [put_rules]))
          (refine walkT_take (i := 2) (v := ?_) rfl (by kernel_rfl) (by decide) (by kernel_rfl) (by kernel_rfl) (fun _ _ _ h => h) (Or.inl ⟨by rfl, ?_⟩) (by assumption) ?_; rotate_left; (focus (intro w hSw; (try dsimp only at hSw); go_simp; (try with_reducible rfl); done)); (try simp only [put_rules]))
          (refine walkT_take (i := 3) (v := ?_) rfl (by kernel_rfl) (by decide) (by kernel_rfl) (by kernel_rfl) (fun _ _ _ h => h) (Or.inl ⟨by rfl, ?_⟩) (by assumption) ?_; rotate_left; (focus (intro w hSw; (try dsimp only at hSw); go_simp; (try with_reducible rfl); done)); (try simp only [put_rules]))
          (refine walkT_take (i := 4) (v := ?_) rfl (by kernel_rfl) (by decide) (by kernel_rfl) (by kernel_rfl) (fun _ _ _ h => h) (Or.inl ⟨by rfl, ?_⟩) (by assumption) ?_; rotate_left; (focus (intro w hSw; (try dsimp only at hSw); go_simp; (try with_reducible rfl); done)); (try simp only [put_rules]))
          (refine walkT_ready (rs := [5]) (by kernel_rfl) (by simp) (by decide) ?_; refine AllT.cons rfl (fun K hK => ?_) AllT.nil)
          go_simp
          go_at_call 106
          have S3 := HS.out.drew
          have hcall := Lib.hid (cur_anyClause vars (by omega) _ g ca cl cc _ S3.cur (by omega))
          refine hcall.out.mono ?_
          rintro e w3 ⟨v, c, rfl, ho, hl, hW, hi3, hc3⟩
          have S4 := S3.comp (row_cs S3.cur hi3 hc3 ho)
          obtain ⟨B2, cap2, rfl⟩ := own_slice ho
          have S5 := Lib.hid (CS.own_to_row (ps := _) S4 hW)
          clear hcall S3 S4 HS l0 l1 hi3 hc3 ho
          go_wp2_with fail
          refine hK.out _ _ ⟨S5.out.cell (i := 2) rfl (o := 0) rfl, S5.out.cell (i := 2) rfl (o := 1) rfl⟩ (fun hS2 => ?_)
          clear hK hSc
          (try simp only [put_rules])
          (refine walkT_ready (rs := [6]) (by kernel_rfl) (by simp) (by decide) ?_; refine AllT.cons rfl (fun K hK => ?_) AllT.nil)
          go_simp
          have hrows := Lib.hid ((S5.out.rows (i := 1) rfl).alloc (.cells #[.slice B2 c.length cap2] 45))
          have kB : (w3.alloc (.cells #[.slice B2 c.length cap2] 45)).cell? ⟨w3.heap.size, 0, none⟩ = some (.slice B2 c.length cap2) := cell_of_row _ _ _ _ _ _ (heap_alloc_new w3 _)
          have S6 := Lib.hid (S5.out.alloc (.cells #[.slice B2 c.length cap2] 45))
          refine hK.out _ _ ⟨S6.out.cell (i := 2) rfl (o := 0) rfl, S6.out.cell (i := 2) rfl (o := 1) rfl⟩ (fun hS3 => ?_)
          clear hK hS2
          (try simp only [put_rules])
          (refine walkT_done (by kernel_rfl) ?_)
          simp only [List.drop_succ_cons, List.drop_zero]
          (refine wpList_append_src rfl _ _ rfl Try.underlying24 hi hz0 hz1 hz2 rfl (by decide) _ ys.length _ rfl hrows.out _ 1 1 [.slice B2 c.length cap2] rfl (Src.one kB) (by simp [Value.oneCell']) (by unfold maxLen; omega) (by omega) ?_; intro vY wY hownY hgY hatY)
          have S7 := S5.out.rows_push (bal (bb _) _) hownY hgY hatY
          obtain ⟨aY, cY, rfl⟩ := own_slice hownY
          have b1 := S7.cell (i := 1) rfl (o := 1) rfl
          have q1 := S7.frozen (i := 1) rfl 1
          have hlen : ys.length + 1 = (ys ++ [c]).length := by simp
          have S8 : Hid (CS w g ca cl cc (A + 1500) (wY.setCell ⟨fb, 1, none⟩ (.slice aY (ys.length + 1) cY)) [Rows Ty.int 45 (.slice aY (ys ++ [c]).length cY) (cs ++ [.slice B2 c.length cap2]) (ys ++ [c]), Box fb 26 #[.int .i64 vars, .slice aY (ys ++ [c]).length cY], Box w.heap.size 26 #[.int .i64 0, .slice none 0 0]]) := by
            unfold Hid; rw [← hlen]
            have := (S7.store (i := 1) rfl 1 (.slice aY (ys.length + 1) cY)).mono (show _ ≤ A + 1500 by omega)
            rw [hlen] at this ⊢
            exact this
          have HC2 : Hid (SmallR 13 (ys ++ [c])) := fun y hy => by
            rcases List.mem_append.1 hy with hy | hy
            · exact HC.out y hy
            · obtain rfl : y = c := by simpa using hy
              exact ⟨hW, by omega⟩
          clear S5 S6 S7 hrows hownY hgY hatY kB hW HC
          replace hlen := Lib.hid hlen
          rw [hlen.out]
          rw [hlen.out] at S8
          generalize ys ++ [c] = zs at *
          have hzl : zs.length ≤ 62 := by rw [← hlen.out]; omega
          have l0 := S8.out.cell (i := 1) rfl (o := 0) rfl
          have l1 := S8.out.cell (i := 1) rfl (o := 1) rfl
          have r0 := S8.out.cell (i := 2) rfl (o := 0) rfl
          have r1 := S8.out.cell (i := 2) rfl (o := 1) rfl
          have f0 := S8.out.frozen (i := 2) rfl 0
          have f1 := S8.out.frozen (i := 2) rfl 1
          have SF := (S8.out.store (i := 2) rfl 0 (.int .i64 vars)).store (i := 2) rfl 1 (.slice aY zs.length cY)
          have j0 := SF.cell (i := 2) rfl (o := 0) rfl
          have j1 := SF.cell (i := 2) rfl (o := 1) rfl
          have hR := Lib.hid ((CS.front (qs := [_]) SF).mono (show _ ≤ A + 2000 by omega))
          clear SF S8
          go_wp2_with fail
          exact bodyPost_ret (v := .agg #[.int .i64 vars, .slice aY zs.length cY]) (by simp [results, Try.results80, go_sem, j0, j1]) rfl ⟨vars, aY, cY, _, zs, rfl, by omega, by omega, by omega, HC2.out, hR.out⟩
        · as_aux_lemma =>
          go_wp2_with fail
          go_loopw [] (fun wr => ∃ (B : Option Addr) (cap : Nat) (cs : List Value) (ys : List (List Int)), ys.length ≤ 61 ∧ Hid (SmallR 13 ys) ∧ Hid (CS w g ca cl cc (A + 1010 + 4 * ys.length) wr [Rows Ty.int 45 (.slice B ys.length cap) cs ys, Box fb 26 #[.int .i64 vars, .slice B ys.length cap], Box w.heap.size 26 #[.int .i64 0, .slice none 0 0]])) (fun wr => 70 - lenAt1 wr fb)
          case atStart => exact ⟨B, cap, cs, ys, by omega, HC, S5.out.mono (by omega)⟩
          case round =>
            clear S5 HC hyl
            obtain ⟨B, cap, cs, ys, hyl, HC, HS⟩ := hrel
            have l1 := HS.out.cell (i := 1) rfl (o := 1) rfl
            have hm1 : Hid (lenAt1 wr fb = ys.length) := lenAt1_of l1
            go_wp2_with fail
            refine wp_region_held_lit (S := (fun w' => w'.cell? ⟨fb, 1, none⟩ = some (.slice B ys.length cap))) 7 [false, false, false, false, false, false, false] (by kernel_rfl) (by kernel_rfl) (by kernel_rfl) ?_ ?_
            · exact l1
            intro hSc
            (refine wpAnyH_take (i := 0) (v := ?_) rfl (by kernel_rfl) (by kernel_rfl) (by kernel_rfl) (fun _ _ _ h => h) (Or.inl ⟨by rfl, ?_⟩) (by assumption) ?_; rotate_left; (focus (intro w hSw; (try dsimp only at hSw); go_simp; (try with_reducible rfl); done)); (try simp only [put_rules]))
            (refine wpAnyH_take (i := 1) (v := ?_) rfl (by kernel_rfl) (by kernel_rfl) (by kernel_rfl) (fun _ _ _ h => h) (Or.inl ⟨by rfl, ?_⟩) (by assumption) ?_; rotate_left; (focus (intro w hSw; (try dsimp only at hSw); go_simp; (try with_reducible rfl); done)); (try simp only [put_rules]))
            (refine wpAnyH_take (i := 2) (v := ?_) rfl (by kernel_rfl) (by kernel_rfl) (by kernel_rfl) (fun _ _ _ h => h) (Or.inl ⟨by rfl, ?_⟩) (by assumption) ?_; rotate_left; (focus (intro w hSw; (try dsimp only at hSw); go_simp; (try with_reducible rfl); done)); (try simp only [put_rules]))
            (refine wpAnyH_take (i := 3) (v := ?_) rfl (by kernel_rfl) (by kernel_rfl) (by kernel_rfl) (fun _ _ _ h => h) (Or.inl ⟨by rfl, ?_⟩) (by assumption) ?_; rotate_left; (focus (intro w hSw; (try dsimp only at hSw); go_simp; (try with_reducible rfl); done)); (try simp only [put_rules]))
            (refine wpAnyH_ready (rs := [4]) (by kernel_rfl) (by simp) ?_; refine AllReadyH.cons rfl (fun K hK => ?_) AllReadyH.nil)
            go_simp
            go_at_call 69
            have S3 := HS.out.drew
            have hcall := Lib.hid (cur_pick_at (lo := 0) (hi := 1) (n := 2) S3.cur (by omega) (by omega) (by omega) (by omega) (by omega))
            refine hcall.out.mono ?_
            rintro e w3 ⟨_, ⟨x, hx0, hx1, rfl⟩, rfl, hi3, hc3⟩
            have S4 := Lib.hid (S3.turn hi3 hc3)
            clear hcall S3 HS hi3 hc3
            have hxw : IntKind.i64.wrap (60 + x) = 60 + x := IntWalk.i64_in _ (by omega)
            have m1 := S4.out.cell (i := 1) rfl (o := 1) rfl
            go_wp2_with fail
            refine hK.out _ _ m1 (fun hS2 => ?_)
            clear l1
            clear hK hSc
            (try simp only [put_rules])
            (refine wpAnyH_take (i := 5) (v := ?_) rfl (by kernel_rfl) (by kernel_rfl) (by kernel_rfl) (fun _ _ _ h => h) (Or.inl ⟨by rfl, ?_⟩) (by assumption) ?_; rotate_left; (focus (intro w hSw; (try dsimp only at hSw); go_simp; (try with_reducible rfl); done)); (try simp only [put_rules]))
            by_cases hlt : (ys.length : Int) < 60 + x
            · have d0 : decide ((ys.length : Int) < 60 + x) = true := decide_eq_true hlt
              (refine wpAnyH_take (i := 6) (v := ?_) rfl (by kernel_rfl) (by kernel_rfl) (by kernel_rfl) (fun _ _ _ h => h) (Or.inl ⟨by rfl, ?_⟩) (by assumption) ?_; rotate_left; (focus (intro w hSw; (try dsimp only at hSw); go_simp; (try with_reducible rfl); done)); (try simp only [put_rules]))
              (refine wpAnyH_done (by kernel_rfl) ?_ _)
              have hp1 : ∀ x ∈ ([1] : List Int), I64 x := fun x hx => by
                obtain rfl : x = 1 := by simpa using hx
                unfold I64; omega
              have S5 := Lib.hid (CS.own_to_row (c := [1]) (S4.out.own_one (.int .i64 1) 3) hp1)
              obtain ⟨w4, hw4⟩ : ∃ w4, w3.alloc (.cells #[.int .i64 1] 3) = w4 := ⟨_, rfl⟩
              have hrows := (S5.out.rows (i := 1) rfl).alloc (.cells #[.slice (some ⟨w3.heap.size, 0, none⟩) 1 1] 45)
              have kB : ((w3.alloc (.cells #[.int .i64 1] 3)).alloc (.cells #[.slice (some ⟨w3.heap.size, 0, none⟩) 1 1] 45)).cell? ⟨w3.heap.size + 1, 0, none⟩ = some (.slice (some ⟨w3.heap.size, 0, none⟩) 1 1) := by
                have := cell_of_row _ _ 0 _ _ _ (heap_alloc_new (w3.alloc (.cells #[.int .i64 1] 3)) (.cells #[.slice (some ⟨w3.heap.size, 0, none⟩) 1 1] 45))
                rw [World.size_alloc] at this
                exact this
              replace hrows := Lib.hid hrows
              clear S4 hp1 hw4 w4
              go_wp2_with (at_builtin; refine wpList_append_src rfl _ _ rfl Try.underlying24 hi hz0 hz1 hz2 rfl (by decide) _ ys.length _ rfl hrows.out _ 1 1 [.slice (some ⟨w3.heap.size, 0, none⟩) 1 1] rfl (Src.one kB) (by simp [Value.oneCell']) ?c3 ?c4 ?_)
              case c3 => unfold maxLen; omega
              case c4 => omega
              intro vY wY hownY hgY hatY
              have S6 := S5.out.rows_push (bal (bb _) _) hownY hgY (by simpa using hatY)
              obtain ⟨aY, cY, rfl⟩ := own_slice hownY
              have b1 := S6.cell (i := 1) rfl (o := 1) rfl
              have q1 := S6.frozen (i := 1) rfl 1
              have hlen : ys.length + 1 = (ys ++ [[1]]).length := by simp
              have S8 : Hid (CS w g ca cl cc (A + 1010 + 4 * (ys.length + 1)) (wY.setCell ⟨fb, 1, none⟩ (.slice aY (ys.length + 1) cY)) [Rows Ty.int 45 (.slice aY (ys ++ [[1]]).length cY) (cs ++ [.slice (some ⟨w3.heap.size, 0, none⟩) 1 1]) (ys ++ [[1]]), Box fb 26 #[.int .i64 vars, .slice aY (ys ++ [[1]]).length cY], Box w.heap.size 26 #[.int .i64 0, .slice none 0 0]]) := by
                unfold Hid; rw [← hlen]
                have := (S6.store (i := 1) rfl 1 (.slice aY (ys.length + 1) cY)).mono (show _ ≤ A + 1010 + 4 * (ys.length + 1) by omega)
                rw [hlen] at this ⊢
                exact this
              have HC2 : Hid (SmallR 13 (ys ++ [[1]])) := fun y hy => by
                rcases List.mem_append.1 hy with hy | hy
                · exact HC.out y hy
                · obtain rfl : y = [1] := by simpa using hy
                  exact ⟨fun x hx => (by obtain rfl : x = 1 := by simpa using hx
                                         unfold I64; omega), by simp⟩
              have hm2 : Hid (lenAt1 (wY.setCell ⟨fb, 1, none⟩ (.slice aY (ys.length + 1) cY)) fb = ys.length + 1) := by
                have := lenAt1_of (S8.out.cell (i := 1) rfl (o := 1) rfl)
                unfold Hid; rw [this, hlen]
              clear S5 S6 hrows hownY hgY hatY kB HC
              rw [hlen] at S8
              replace hlen := Lib.hid hlen
              go_wp2_with fail
              go_roundw
              case rel => exact ⟨aY, cY, cs ++ [.slice (some ⟨w3.heap.size, 0, none⟩) 1 1], ys ++ [[1]], by rw [← hlen.out]; omega, HC2, by rw [hlen.out]; exact S8⟩
              case measure => rw [hm1.out, hm2.out]; omega
            · have d0 : decide ((ys.length : Int) < 60 + x) = false := decide_eq_false hlt
              (refine wpAnyH_take (i := 6) (v := ?_) rfl (by kernel_rfl) (by kernel_rfl) (by kernel_rfl) (fun _ _ _ h => h) (Or.inl ⟨by rfl, ?_⟩) (by assumption) ?_; rotate_left; (focus (intro w hSw; (try dsimp only at hSw); go_simp; (try with_reducible rfl); done)); (try simp only [put_rules]))
              (refine wpAnyH_done (by kernel_rfl) ?_ _)
              have l0 := S4.out.cell (i := 1) rfl (o := 0) rfl
              have l1 := S4.out.cell (i := 1) rfl (o := 1) rfl
              have r0 := S4.out.cell (i := 2) rfl (o := 0) rfl
              have r1 := S4.out.cell (i := 2) rfl (o := 1) rfl
              have f0 := S4.out.frozen (i := 2) rfl 0
              have f1 := S4.out.frozen (i := 2) rfl 1
              have SF := (S4.out.store (i := 2) rfl 0 (.int .i64 vars)).store (i := 2) rfl 1 (.slice B ys.length cap)
              have j0 := SF.cell (i := 2) rfl (o := 0) rfl
              have j1 := SF.cell (i := 2) rfl (o := 1) rfl
              have hR := Lib.hid ((CS.front (qs := [_]) SF).mono (show _ ≤ A + 2000 by omega))
              clear SF S4
              go_wp2_with fail
              exact bodyPost_ret (v := .agg #[.int .i64 vars, .slice B ys.length cap]) (by simp [results, Try.results80, go_sem, j0, j1]) rfl ⟨vars, B, cap, cs, ys, rfl, by omega, by omega, by omega, HC.out, hR.out⟩
        · as_aux_lemma =>
          have HS := S5
          clear S5
          have l0 := HS.out.cell (i := 1) rfl (o := 0) rfl
          have l1 := HS.out.cell (i := 1) rfl (o := 1) rfl
          go_wp2_with fail
          refine wp_region_tail_lit (S := (fun w' => w'.cell? ⟨fb, 0, none⟩ = some (.int .i64 vars) ∧ w'.cell? ⟨fb, 1, none⟩ = some (.slice B ys.length cap))) 8 [false, false, false, false, false, false, false, false, false, false, false] (by kernel_rfl) (by kernel_rfl) (by kernel_rfl) ?_ ?_
          · exact ⟨l0, l1⟩
          intro hSc
          (refine walkT_take (i := 0) (v := ?_) rfl (by kernel_rfl) (by decide) (by kernel_rfl) (by kernel_rfl) (fun _ _ _ h => h) (Or.inl ⟨by rfl, ?_⟩) (by assumption) ?_; rotate_left; (focus (intro w hSw; (try dsimp only at hSw); go_simp; (try with_reducible rfl); done)); (try simp only [put_rules]))
          (refine walkT_take (i := 1) (v := ?_) rfl (by kernel_rfl) (by decide) (by kernel_rfl) (by kernel_rfl) (fun _ _ _ h => h) (Or.inl ⟨by rfl, ?_⟩) (by assumption) ?_; rotate_left; (focus (intro w hSw; (try dsimp only at hSw); go_simp; (try with_reducible rfl); done)); (try simp only [put_rules]))
          (refine walkT_take (i := 2) (v := ?_) rfl (by kernel_rfl) (by decide) (by kernel_rfl) (by kernel_rfl) (fun _ _ _ h => h) (Or.inl ⟨by rfl, ?_⟩) (by assumption) ?_; rotate_left; (focus (intro w hSw; (try dsimp only at hSw); go_simp; (try with_reducible rfl); done)); (try simp only [put_rules]))
          (refine walkT_take (i := 3) (v := ?_) rfl (by kernel_rfl) (by decide) (by kernel_rfl) (by kernel_rfl) (fun _ _ _ h => h) (Or.inl ⟨by rfl, ?_⟩) (by assumption) ?_; rotate_left; (focus (intro w hSw; (try dsimp only at hSw); go_simp; (try with_reducible rfl); done)); (try simp only [put_rules]))
          (refine walkT_take (i := 4) (v := ?_) rfl (by kernel_rfl) (by decide) (by kernel_rfl) (by kernel_rfl) (fun _ _ _ h => h) (Or.inl ⟨by rfl, ?_⟩) (by assumption) ?_; rotate_left; (focus (intro w hSw; (try dsimp only at hSw); go_simp; (try with_reducible rfl); done)); (try simp only [put_rules]))
          (refine walkT_ready (rs := [5, 6]) (by kernel_rfl) (by simp) (by decide) ?_; refine AllT.cons rfl (fun K hK => ?_) (AllT.cons rfl (fun K hK => ?_) AllT.nil))
          · as_aux_lemma =>
              go_simp
              go_at_call 105
              have S3 := HS.out.drew
              have hcall := Lib.hid (cur_clause vars (by omega) _ g ca cl cc _ S3.cur (by omega))
              refine hcall.out.mono ?_
              rintro e w3 ⟨v, c, rfl, ho, hl, hW, hi3, hc3⟩
              have S4 := S3.comp (row_cs S3.cur hi3 hc3 ho)
              obtain ⟨B2, cap2, rfl⟩ := own_slice ho
              have S5 := Lib.hid (CS.own_to_row (ps := _) S4 (hW.i64 (by decide)))
              clear hcall S3 S4 HS l0 l1 hi3 hc3 ho
              go_wp2_with fail
              refine hK.out _ _ ⟨S5.out.cell (i := 2) rfl (o := 0) rfl, S5.out.cell (i := 2) rfl (o := 1) rfl⟩ (fun hS2 => ?_)
              clear hK hSc
              (try simp only [put_rules])
              (refine walkT_ready (rs := [6]) (by kernel_rfl) (by simp) (by decide) ?_; refine AllT.cons rfl (fun K hK => ?_) AllT.nil)
              go_simp
              have S6 := CS.own_to_row (c := []) (S5.out.own_made 3 1) (fun x hx => by simp at hx)
              have S7 := Lib.hid (CS.pend S6.swap)
              refine hK.out _ _ ⟨S7.out.cell (i := 2) rfl (o := 0) rfl, S7.out.cell (i := 2) rfl (o := 1) rfl⟩ (fun hS3 => ?_)
              clear hK hS2 S5 S6
              (try simp only [put_rules])
              (refine walkT_ready (rs := [7]) (by kernel_rfl) (by simp) (by decide) ?_; refine AllT.cons rfl (fun K hK => ?_) AllT.nil)
              go_simp
              obtain ⟨w4, hw4⟩ : ∃ w4, w3.alloc (.cells #[] 3) = w4 := ⟨_, rfl⟩
              have hsz4 : w3.heap.size + 1 = w4.heap.size := by rw [← hw4, World.size_alloc]
              rw [hw4] at S7 ⊢
              have hrows := Lib.hid ((S7.out.rows (i := 1) rfl).alloc (.cells #[.slice B2 c.length cap2, .slice (some ⟨w3.heap.size, 0, none⟩) 0 0] 45))
              have kB : (w4.alloc (.cells #[.slice B2 c.length cap2, .slice (some ⟨w3.heap.size, 0, none⟩) 0 0] 45)).cell? ⟨w4.heap.size, 0, none⟩ = some (.slice B2 c.length cap2) := cell_of_row _ _ _ _ _ _ (heap_alloc_new w4 _)
              have kC : (w4.alloc (.cells #[.slice B2 c.length cap2, .slice (some ⟨w3.heap.size, 0, none⟩) 0 0] 45)).cell? ⟨w4.heap.size, 1, none⟩ = some (.slice (some ⟨w3.heap.size, 0, none⟩) 0 0) := cell_of_row _ _ _ _ _ _ (heap_alloc_new w4 _)
              rw [← hsz4] at kB kC
              have S6 := Lib.hid (S7.out.alloc (.cells #[.slice B2 c.length cap2, .slice (some ⟨w3.heap.size, 0, none⟩) 0 0] 45))
              refine hK.out _ _ ⟨S6.out.cell (i := 2) rfl (o := 0) rfl, S6.out.cell (i := 2) rfl (o := 1) rfl⟩ (fun hS4 => ?_)
              clear hK hS3
              (try simp only [put_rules])
              (refine walkT_done (by kernel_rfl) ?_)
              simp only [List.drop_succ_cons, List.drop_zero]
              (refine wpList_append_src rfl _ _ rfl Try.underlying24 hi hz0 hz1 hz2 rfl (by decide) _ ys.length _ rfl hrows.out _ 2 2 [.slice B2 c.length cap2, .slice (some ⟨w3.heap.size, 0, none⟩) 0 0] rfl (Src.two kB kC) (by simp [Value.oneCell']) (by unfold maxLen; omega) (by omega) ?_; intro vY wY hownY hgY hatY)
              have S9 := S7.out.rows_append (bal (bb _) _) hownY hgY hatY
              obtain ⟨aY, cY, rfl⟩ := own_slice hownY
              have b1 := S9.cell (i := 1) rfl (o := 1) rfl
              have q1 := S9.frozen (i := 1) rfl 1
              have hlen : ys.length + 2 = (ys ++ [c, []]).length := by simp
              have S8 : Hid (CS w g ca cl cc (A + 1500) (wY.setCell ⟨fb, 1, none⟩ (.slice aY (ys.length + 2) cY)) [Rows Ty.int 45 (.slice aY (ys ++ [c, []]).length cY) (cs ++ [.slice B2 c.length cap2, .slice (some ⟨w3.heap.size, 0, none⟩) 0 0]) (ys ++ [c, []]), Box fb 26 #[.int .i64 vars, .slice aY (ys ++ [c, []]).length cY], Box w.heap.size 26 #[.int .i64 0, .slice none 0 0]]) := by
                unfold Hid; rw [← hlen]
                have := (S9.store (i := 1) rfl 1 (.slice aY (ys.length + 2) cY)).mono (show _ ≤ A + 1500 by omega)
                rw [hlen] at this ⊢
                exact this
              have HC2 : Hid (SmallR 13 (ys ++ [c, []])) := fun y hy => by
                rcases List.mem_append.1 hy with hy | hy
                · exact HC.out y hy
                · rcases List.mem_cons.1 hy with rfl | hy
                  · exact ⟨hW.i64 (by decide), by omega⟩
                  · obtain rfl : y = [] := by simpa using hy
                    exact ⟨by simp, by simp⟩
              clear S6 S7 S9 hrows hownY hgY hatY kB kC hW HC
              replace hlen := Lib.hid hlen
              rw [hlen.out]
              rw [hlen.out] at S8
              generalize ys ++ [c, []] = zs at *
              have hzl : zs.length ≤ 62 := by rw [← hlen.out]; omega
              have l0 := S8.out.cell (i := 1) rfl (o := 0) rfl
              have l1 := S8.out.cell (i := 1) rfl (o := 1) rfl
              have r0 := S8.out.cell (i := 2) rfl (o := 0) rfl
              have r1 := S8.out.cell (i := 2) rfl (o := 1) rfl
              have f0 := S8.out.frozen (i := 2) rfl 0
              have f1 := S8.out.frozen (i := 2) rfl 1
              have SF := (S8.out.store (i := 2) rfl 0 (.int .i64 vars)).store (i := 2) rfl 1 (.slice aY zs.length cY)
              have j0 := SF.cell (i := 2) rfl (o := 0) rfl
              have j1 := SF.cell (i := 2) rfl (o := 1) rfl
              have hR := Lib.hid ((CS.front (qs := [_]) SF).mono (show _ ≤ A + 2000 by omega))
              clear SF S8
              go_wp2_with fail
              exact bodyPost_ret (v := .agg #[.int .i64 vars, .slice aY zs.length cY]) (by simp [results, Try.results80, go_sem, j0, j1]) rfl ⟨vars, aY, cY, _, zs, rfl, by omega, by omega, by omega, HC2.out, hR.out⟩
          · as_aux_lemma =>
              go_simp
              have S6 := CS.own_to_row (c := []) (HS.out.drew.own_made 3 1) (fun x hx => by simp at hx)
              (repeat (first | simp only [drew_size] at S6 | simp only [World.size_setCell] at S6 | simp only [World.size_alloc] at S6))
              replace S6 := Lib.hid S6
              refine hK.out _ _ ⟨S6.out.cell (i := 2) rfl (o := 0) rfl, S6.out.cell (i := 2) rfl (o := 1) rfl⟩ (fun hS2 => ?_)
              clear hK hSc HS l0 l1
              (try simp only [put_rules])
              (refine walkT_ready (rs := [5]) (by kernel_rfl) (by simp) (by decide) ?_; refine AllT.cons rfl (fun K hK => ?_) AllT.nil)
              go_simp
              go_at_call 105
              have hcall := Lib.hid (cur_clause vars (by omega) _ g ca cl cc _ S6.out.cur (by omega))
              refine hcall.out.mono ?_
              rintro e w4 ⟨v, c, rfl, ho, hl, hW, hi3, hc3⟩
              have S4 := S6.out.comp (row_cs S6.out.cur hi3 hc3 ho)
              obtain ⟨B2, cap2, rfl⟩ := own_slice ho
              have S7 := Lib.hid (CS.pend (CS.own_to_row (ps := _) S4 (hW.i64 (by decide))))
              clear hcall S4 S6 hi3 hc3 ho
              go_wp2_with fail
              refine hK.out _ _ ⟨S7.out.cell (i := 2) rfl (o := 0) rfl, S7.out.cell (i := 2) rfl (o := 1) rfl⟩ (fun hS3 => ?_)
              clear hK hS2
              (try simp only [put_rules])
              (refine walkT_ready (rs := [7]) (by kernel_rfl) (by simp) (by decide) ?_; refine AllT.cons rfl (fun K hK => ?_) AllT.nil)
              go_simp
              have hrows := Lib.hid ((S7.out.rows (i := 1) rfl).alloc (.cells #[.slice B2 c.length cap2, .slice (some ⟨w5.heap.size, 0, none⟩) 0 0] 45))
              have kB : (w4.alloc (.cells #[.slice B2 c.length cap2, .slice (some ⟨w5.heap.size, 0, none⟩) 0 0] 45)).cell? ⟨w4.heap.size, 0, none⟩ = some (.slice B2 c.length cap2) := cell_of_row _ _ _ _ _ _ (heap_alloc_new w4 _)
              have kC : (w4.alloc (.cells #[.slice B2 c.length cap2, .slice (some ⟨w5.heap.size, 0, none⟩) 0 0] 45)).cell? ⟨w4.heap.size, 1, none⟩ = some (.slice (some ⟨w5.heap.size, 0, none⟩) 0 0) := cell_of_row _ _ _ _ _ _ (heap_alloc_new w4 _)
              have S6 := Lib.hid (S7.out.alloc (.cells #[.slice B2 c.length cap2, .slice (some ⟨w5.heap.size, 0, none⟩) 0 0] 45))
              refine hK.out _ _ ⟨S6.out.cell (i := 2) rfl (o := 0) rfl, S6.out.cell (i := 2) rfl (o := 1) rfl⟩ (fun hS4 => ?_)
              clear hK hS3
              (try simp only [put_rules])
              (refine walkT_done (by kernel_rfl) ?_)
              simp only [List.drop_succ_cons, List.drop_zero]
              (refine wpList_append_src rfl _ _ rfl Try.underlying24 hi hz0 hz1 hz2 rfl (by decide) _ ys.length _ rfl hrows.out _ 2 2 [.slice B2 c.length cap2, .slice (some ⟨w5.heap.size, 0, none⟩) 0 0] rfl (Src.two kB kC) (by simp [Value.oneCell']) (by unfold maxLen; omega) (by omega) ?_; intro vY wY hownY hgY hatY)
              have S9 := S7.out.rows_append (bal (bb _) _) hownY hgY hatY
              obtain ⟨aY, cY, rfl⟩ := own_slice hownY
              have b1 := S9.cell (i := 1) rfl (o := 1) rfl
              have q1 := S9.frozen (i := 1) rfl 1
              have hlen : ys.length + 2 = (ys ++ [c, []]).length := by simp
              have S8 : Hid (CS w g ca cl cc (A + 1500) (wY.setCell ⟨fb, 1, none⟩ (.slice aY (ys.length + 2) cY)) [Rows Ty.int 45 (.slice aY (ys ++ [c, []]).length cY) (cs ++ [.slice B2 c.length cap2, .slice (some ⟨w5.heap.size, 0, none⟩) 0 0]) (ys ++ [c, []]), Box fb 26 #[.int .i64 vars, .slice aY (ys ++ [c, []]).length cY], Box w.heap.size 26 #[.int .i64 0, .slice none 0 0]]) := by
                unfold Hid; rw [← hlen]
                have := (S9.store (i := 1) rfl 1 (.slice aY (ys.length + 2) cY)).mono (show _ ≤ A + 1500 by omega)
                rw [hlen] at this ⊢
                exact this
              have HC2 : Hid (SmallR 13 (ys ++ [c, []])) := fun y hy => by
                rcases List.mem_append.1 hy with hy | hy
                · exact HC.out y hy
                · rcases List.mem_cons.1 hy with rfl | hy
                  · exact ⟨hW.i64 (by decide), by omega⟩
                  · obtain rfl : y = [] := by simpa using hy
                    exact ⟨by simp, by simp⟩
              clear S6 S7 S9 hrows hownY hgY hatY kB kC hW HC
              replace hlen := Lib.hid hlen
              rw [hlen.out]
              rw [hlen.out] at S8
              generalize ys ++ [c, []] = zs at *
              have hzl : zs.length ≤ 62 := by rw [← hlen.out]; omega
              have l0 := S8.out.cell (i := 1) rfl (o := 0) rfl
              have l1 := S8.out.cell (i := 1) rfl (o := 1) rfl
              have r0 := S8.out.cell (i := 2) rfl (o := 0) rfl
              have r1 := S8.out.cell (i := 2) rfl (o := 1) rfl
              have f0 := S8.out.frozen (i := 2) rfl 0
              have f1 := S8.out.frozen (i := 2) rfl 1
              have SF := (S8.out.store (i := 2) rfl 0 (.int .i64 vars)).store (i := 2) rfl 1 (.slice aY zs.length cY)
              have j0 := SF.cell (i := 2) rfl (o := 0) rfl
              have j1 := SF.cell (i := 2) rfl (o := 1) rfl
              have hR := Lib.hid ((CS.front (qs := [_]) SF).mono (show _ ≤ A + 2000 by omega))
              clear SF S8
              go_wp2_with fail
              exact bodyPost_ret (v := .agg #[.int .i64 vars, .slice aY zs.length cY]) (by simp [results, Try.results80, go_sem, j0, j1]) rfl ⟨vars, aY, cY, _, zs, rfl, by omega, by omega, by omega, HC2.out, hR.out⟩
        · as_aux_lemma =>
          have l0 := S5.out.cell (i := 1) rfl (o := 0) rfl
          have l1 := S5.out.cell (i := 1) rfl (o := 1) rfl
          have r0 := S5.out.cell (i := 2) rfl (o := 0) rfl
          have r1 := S5.out.cell (i := 2) rfl (o := 1) rfl
          have f0 := S5.out.frozen (i := 2) rfl 0
          have f1 := S5.out.frozen (i := 2) rfl 1
          have SF := (S5.out.store (i := 2) rfl 0 (.int .i64 vars)).store (i := 2) rfl 1 (.slice B ys.length cap)
          have j0 := SF.cell (i := 2) rfl (o := 0) rfl
          have j1 := SF.cell (i := 2) rfl (o := 1) rfl
          have hR := Lib.hid ((CS.front (qs := [_]) SF).mono (show _ ≤ A + 2000 by omega))
          clear SF S5
          go_wp2_with fail
          exact bodyPost_ret (v := .agg #[.int .i64 vars, .slice B ys.length cap]) (by simp [results, Try.results80, go_sem, j0, j1]) rfl ⟨vars, B, cap, cs, ys, rfl, by omega, by omega, by omega, HC.out, hR.out⟩
end Go.Proofs.Ytkhopkonddgicaa

/- Contracts: the laws' own comparisons of numbers. -/
namespace Go.Proofs.Ytkhopkonddgicaa
open Go.RowKit

theorem rBig_any (ca : Option Addr) (cl cc : Nat) (w : World) : Calls Try.prog 6 #[.slice ca cl cc] w fun e w' => e = .returned (.bool (decide ((65536 : Int) < (cl : Int)))) ∧ w' = w := by
  go_enter Try.func6, Try.ntmps6
  go_wp2_with fail
  go_ret
  exact ⟨rfl, rfl⟩

/- left out: the seat has no laws.rInts -/

/- left out: the seat has no laws.vInts -/
end Go.Proofs.Ytkhopkonddgicaa

/- Contracts: drawn Cnfs as inputs of laws. -/
namespace Go.Proofs.Ytkhopkonddgicaa
open Go.RowKit

section
variable {w0 w w' : World} {ps qs : List Asn} {A A' g cl cc : Nat} {ca : Option Addr}
theorem Sp.cur_laid (h : Sp w0 w ps) (ca : Option Addr) (cl cc : Nat) : Sp w0 (w.alloc (.cells #[.slice ca cl cc, .int .i64 0, .int .u64 0] 78)) (CurA 0 w.heap.size ca cl cc :: ps) :=
  h.new (bal (bb w) _) (F := [w.heap.size]) ⟨rfl, 0, 0, heap_alloc_new w _, Nat.le_refl 0, Int.le_refl 0, by omega⟩ (by simp)
theorem Sp.cs_call (h : Sp w0 w (CurA A g ca cl cc :: ps)) (k : CS w g ca cl cc A' w' qs) (hc : CodeOk w0 ca cl) (hs : cl ≤ 65536) : Sp w0 w' (qs ++ CurA A' g ca cl cc :: ps) := by
  have hb := ((h.cur (A' := A') (i := 0) rfl hc hs).2 w' k.cur k.chg).below
  obtain ⟨h1, F, ⟨F1, F2, rfl, hd, ⟨rfl, -⟩, h5⟩, h3⟩ := h
  have hg : g < w.heap.size := by
    obtain ⟨A0, h0⟩ := k.1
    exact h0.lt
  obtain ⟨k0, k1, k2, G, k3, k4⟩ := k
  have hk := sep_keep h5 fun b hm => k2.block b (sep_lt h5 b hm) fun hb => by
    obtain rfl : b = g := by simpa using hb
    exact hd b (by simp) hm
  refine ⟨hb, G ++ ([g] ++ F2), sep_append k3 ⟨[g], F2, rfl, hd, ⟨rfl, k1.ok⟩, hk⟩ (fun b hb hb2 => ?_), fun b hb => ?_⟩
  · have := k4 b hb
    rcases List.mem_append.1 hb2 with h' | h'
    · obtain rfl : b = g := by simpa using h'
      omega
    · have := sep_lt h5 b h'; omega
  · rcases List.mem_append.1 hb with hb | hb
    · have := k4 b hb; have := h1.size; omega
    · exact h3 b hb
end
/-- A drawn Cnf of its own. -/
def CnfD (w : World) (e : Ending) (w' : World) : Prop := ∃ (vars : Int) (B : Option Addr) (cap : Nat) (cs : List Value) (xss : List (List Int)), e = .returned (.agg #[.int .i64 vars, .slice B xss.length cap]) ∧ -1 ≤ vars ∧ vars ≤ 13 ∧ xss.length ≤ 62 ∧ SmallR 13 xss ∧
  Sp w w' [Rows Ty.int 45 (.slice B xss.length cap) cs xss]

set_option maxRecDepth 100000 in
set_option maxHeartbeats 4000000 in
theorem drawIsCnf_any (ca : Option Addr) (cl cc : Nat) (w : World) (hc : CodeOk w ca cl) (hs : cl ≤ 65536) : Calls Try.prog 38 #[.slice ca cl cc] w (CnfD w) := by
  have S0 := ((Sp.start w).alloc_box #[.int .i64 0, .slice none 0 0] 26).cur_laid ca cl cc
  simp only [World.size_alloc] at S0
  have hi := Lib.hid (S0.cur (A' := 0) (i := 0) rfl hc hs).1
  replace S0 := Lib.hid S0
  go_enter Try.func38, Try.ntmps38
  go_wp2_with fail
  refine (cur_cnf 0 (w.heap.size + 1) ca cl cc _ hi.out (by omega)).mono ?_
  rintro e w1 ⟨vars, B, cap, cs, xss, rfl, hv0, hv1, hl, HC, T⟩
  replace HC := Lib.hid HC
  have S1 := S0.out.cs_call T hc hs
  clear T S0 hi
  have e0 := S1.cell (i := 2) rfl (o := 0) rfl
  have e1 := S1.cell (i := 2) rfl (o := 1) rfl
  have f0 := S1.frozen (i := 2) rfl 0
  have f1 := S1.frozen (i := 2) rfl 1
  have S6 := (S1.store (i := 2) rfl 0 (.int .i64 vars)).store (i := 2) rfl 1 (.slice B xss.length cap)
  have j0 := S6.cell (i := 2) rfl (o := 0) rfl
  have j1 := S6.cell (i := 2) rfl (o := 1) rfl
  have hR := Lib.hid (Sp.front (qs := [_]) S6)
  clear S6 S1
  go_wp2_with fail
  exact bodyPost_ret (v := .agg #[.int .i64 vars, .slice B xss.length cap]) (by simp [results, Try.results38, go_sem, j0, j1]) rfl ⟨vars, B, cap, cs, xss, rfl, hv0, hv1, hl, HC.out, hR.out⟩

/- left out: the seat has no spec.DrawBackboneOf -/
end Go.Proofs.Ytkhopkonddgicaa

/- Contracts: drawn circuits. -/
namespace Go.Proofs.Ytkhopkonddgicaa
open Go.RowKit

theorem l1LeastG_any (a b : Int) (w : World) : Calls Try.prog 71 #[.int .i64 a, .int .i64 b] w fun e w' => ∃ x, e = .returned (.int .i64 x) ∧ x ≤ b ∧ (x = a ∨ x = b) ∧ w = w' := by
  by_cases h : a < b
  · go_enter Try.func71, Try.ntmps71
    go_wp2_with fail
    go_ret
    exact ⟨a, rfl, by omega, .inl rfl, rfl⟩
  · have h2 : b ≤ a := by omega
    go_enter Try.func71, Try.ntmps71
    go_wp2_with fail
    go_ret
    exact ⟨b, rfl, by omega, .inr rfl, rfl⟩
/-- A small gate. -/
def gtS (x : Gt) : Prop := (-5000 ≤ x.k ∧ x.k ≤ 5000) ∧ (-5000 ≤ x.a ∧ x.a ≤ 5000) ∧ (-5000 ≤ x.b ∧ x.b ≤ 5000)
theorem gtS.ok {x : Gt} (h : gtS x) : gtOk x := by
  unfold gtS at h
  unfold gtOk I64
  omega
theorem gtS_snoc {M : List Gt} {g : Gt} (h : ∀ x ∈ M, gtS x) (hg : gtS g) : ∀ x ∈ M ++ [g], gtS x := fun x hx => by
  rcases List.mem_append.1 hx with hx | hx
  · exact h x hx
  · rw [List.mem_singleton] at hx; subst hx; exact hg
/-- The length of a slice. -/
def lenOf : Value → Nat
  | .slice _ n _ => n
  | _ => 0
def SmallV (u : Value) : Prop := ∃ z : Int, u = .int .i64 z ∧ -5000 ≤ z ∧ z ≤ 5000
theorem cells_gates : ∀ (n : Nat) (xs : List Value), xs.length = n * 3 → (∀ u ∈ xs, SmallV u) → ∃ M : List Gt, M.length = n ∧ M.flatMap gtEnc = xs ∧ ∀ x ∈ M, gtS x
  | 0, [], _, _ => ⟨[], rfl, rfl, by simp⟩
  | 0, _ :: _, h, _ => absurd h (by simp only [List.length_cons]; omega)
  | n + 1, [], h, _ => absurd h (by simp only [List.length_nil]; omega)
  | n + 1, [_], h, _ => absurd h (by simp only [List.length_cons, List.length_nil]; omega)
  | n + 1, [_, _], h, _ => absurd h (by simp only [List.length_cons, List.length_nil]; omega)
  | n + 1, u1 :: u2 :: u3 :: xs, h, hs => by
    obtain ⟨z1, rfl, a1, b1⟩ := hs u1 (by simp)
    obtain ⟨z2, rfl, a2, b2⟩ := hs u2 (by simp)
    obtain ⟨z3, rfl, a3, b3⟩ := hs u3 (by simp)
    obtain ⟨M, h1, h2, h3⟩ := cells_gates n xs (by simp only [List.length_cons] at h; omega) (fun u hu => hs u (by simp [hu]))
    refine ⟨⟨z1, z2, z3⟩ :: M, by simp [h1], by rw [List.flatMap_cons, h2]; rfl, fun x hx => ?_⟩
    rcases List.mem_cons.1 hx with rfl | hx
    · exact ⟨⟨a1, b1⟩, ⟨a2, b2⟩, ⟨a3, b3⟩⟩
    · exact h3 x hx
theorem small_flat {M : List Gt} (h : ∀ x ∈ M, gtS x) : ∀ u ∈ M.flatMap gtEnc, SmallV u := by
  intro u hu
  obtain ⟨x, hx, hu⟩ := List.mem_flatMap.1 hu
  obtain ⟨h1, h2, h3⟩ := h x hx
  simp only [gtEnc, List.mem_cons, List.not_mem_nil, or_false] at hu
  rcases hu with rfl | rfl | rfl
  · exact ⟨_, rfl, h1.1, h1.2⟩
  · exact ⟨_, rfl, h2.1, h2.2⟩
  · exact ⟨_, rfl, h3.1, h3.2⟩
theorem small_set {xs : List Value} {o : Nat} {z : Int} (h : ∀ u ∈ xs, SmallV u) (h1 : -5000 ≤ z) (h2 : z ≤ 5000) : ∀ u ∈ xs.set o (.int .i64 z), SmallV u := fun u hu => by
  rcases List.mem_or_eq_of_mem_set hu with hu | rfl
  · exact h u hu
  · exact ⟨z, rfl, h1, h2⟩
theorem flat_len3 (gs : List Gt) : (gs.flatMap gtEnc).length = gs.length * 3 := by
  induction gs with
  | nil => rfl
  | cons g gs ih => rw [List.flatMap_cons, List.length_append, ih, List.length_cons]; simp [gtEnc]; omega
/-- What a drawn circuit is. -/
def CircPost (A' g : Nat) (ca : Option Addr) (cl cc : Nat) (w : World) (e : Ending) (w' : World) : Prop :=
  ∃ (B : Option Addr) (cap : Nat) (M : List Gt), e = .returned (.slice B M.length cap) ∧ M.length ≤ 300 ∧ GtAt w' B M ∧ (∀ a, B = some a → w.heap.size ≤ a.block) ∧ CS w g ca cl cc A' w' []
theorem CircPost.of_own {A' g : Nat} {ca : Option Addr} {cl cc : Nat} {w w' : World} {B : Option Addr} {cap n : Nat} {M : List Gt} (hn : M.length = n) (hl : n ≤ 300) (hM : ∀ x ∈ M, gtS x) (h : CS w g ca cl cc A' w' [Own 41 3 (.slice B n cap) n (M.flatMap gtEnc)]) : CircPost A' g ca cl cc w (.returned (.slice B n cap)) w' := by
  subst hn
  obtain ⟨B', c', e, hG⟩ := gt_own (h.own (i := 0) rfl) (fun x hx => (hM x hx).ok)
  cases e
  obtain ⟨F, ⟨rfl, hF⟩, hb⟩ := h.get (i := 0) rfl
  refine ⟨B, cap, M, rfl, hl, hG, fun a ha => ?_, h.tail⟩
  obtain ⟨-, ⟨e, -⟩ | ⟨g', cap', cur, e, -⟩⟩ := hF
  · rw [ha] at e; cases e
  · rw [ha] at e
    cases e
    exact hb g' (by rw [ha]; simp [Value.ownBlock])

theorem CircPost.of_set {A' g : Nat} {ca : Option Addr} {cl cc : Nat} {w w' : World} {B : Option Addr} {cap n o : Nat} {z : Int} {M : List Gt} (hn : M.length = n) (hl : n ≤ 300) (hM : ∀ x ∈ M, gtS x) (h1 : -5000 ≤ z) (h2 : z ≤ 5000) (h : CS w g ca cl cc A' w' [Own 41 3 (.slice B n cap) n ((M.flatMap gtEnc).set o (.int .i64 z))]) : CircPost A' g ca cl cc w (.returned (.slice B n cap)) w' := by
  obtain ⟨M', e1, e2, e3⟩ := cells_gates n ((M.flatMap gtEnc).set o (.int .i64 z)) (by rw [List.length_set, flat_len3, hn]) (small_set (small_flat hM) h1 h2)
  rw [← e2] at h
  exact CircPost.of_own e1 hl e3 h

set_option maxRecDepth 100000 in
set_option maxHeartbeats 16000000 in
theorem cur_circuit (vars : Int) (hv0 : -1 ≤ vars) (hv1 : vars ≤ 13) (A g : Nat) (ca : Option Addr) (cl cc : Nat) (w : World) (h : CurIs A g ca cl cc w) (hA : A ≤ 30000000) :
    Calls Try.prog 74 #[.pointer (some ⟨g, 0, none⟩), .int .i64 vars] w (CircPost (A + 2000) g ca cl cc w) := by
  have hg := h.lt
  obtain ⟨i0, hi0, hz0, hz1, hz2⟩ := info_parts infoGt
  have S0 := Lib.hid ((CS.start h).own_made 41 3)
  have hcall := Lib.hid (cur_among 0 10 (w.heap.size + 1) 0 9 9 A g ca cl cc ((w.alloc (.cells #[] 41)).alloc (.cells #[.int .i64 0, .int .i64 1, .int .i64 2, .int .i64 3, .int .i64 4, .int .i64 5, .int .i64 6, .int .i64 8, .int .i64 10] 3)) (S0.out.cur.grow (bal (bb _) _)) (by omega) (by decide) (by decide) (ints_new (by simp) fun j hj => by
      match j, hj with
      | 0, _ => exact ⟨_, rfl, by decide, by decide⟩
      | 1, _ => exact ⟨_, rfl, by decide, by decide⟩
      | 2, _ => exact ⟨_, rfl, by decide, by decide⟩
      | 3, _ => exact ⟨_, rfl, by decide, by decide⟩
      | 4, _ => exact ⟨_, rfl, by decide, by decide⟩
      | 5, _ => exact ⟨_, rfl, by decide, by decide⟩
      | 6, _ => exact ⟨_, rfl, by decide, by decide⟩
      | 7, _ => exact ⟨_, rfl, by decide, by decide⟩
      | 8, _ => exact ⟨_, rfl, by decide, by decide⟩) (by omega))
  clear h
  go_enter Try.func74, Try.ntmps74
  go_wp2_with fail
  refine hcall.out.mono ?_
  rintro e w2 ⟨_, ⟨z0, hz00, hz01, rfl⟩, rfl, hi2, hc2⟩
  have S2 := Lib.hid ((S0.out.alloc _).turn hi2 hc2)
  clear S0 hcall hi2 hc2
  go_wp2_with fail
  go_loopw [6, 5] (fun i o wr => ∃ (j : Nat) (z : Int) (ov : Value) (M : List Gt), i = .int .i64 z ∧ z = z0 - j ∧ (j : Int) ≤ z0 + 1 ∧ o = ov ∧ Hid (M.length = j) ∧ Hid (∀ x ∈ M, gtS x) ∧ Hid (CS w g ca cl cc (A + 2 + 10 * j) wr [Own 41 3 ov j (M.flatMap gtEnc)])) (fun i _ _ => (intOf i + 1).toNat)
  case atStart => exact ⟨0, z0, _, [], rfl, by omega, by omega, rfl, rfl, by unfold Hid; simp, S2⟩
  case round =>
    obtain ⟨j, z, ov, M, rfl, hz, hj, rfl, hMl, hMs, hS⟩ := hrel
    clear S2
    replace hz := Lib.hid hz
    obtain ⟨aO, cO, rfl⟩ := own_slice (hS.out.own (i := 0) rfl)
    by_cases hlt : 0 ≤ z
    · have hw : IntKind.i64.wrap (z - 1) = z - 1 := IntWalk.i64_in _ (by have := hz.out; omega)
      have hj11 : j ≤ 11 := by omega
      replace hj := Lib.hid hj
      have hgl : g < wr.heap.size := hS.out.cur.lt
      have hcall := Lib.hid (cur_among 1 6 wr.heap.size 0 10 10 _ g ca cl cc (wr.alloc (.cells #[.int .i64 1, .int .i64 1, .int .i64 2, .int .i64 3, .int .i64 4, .int .i64 4, .int .i64 5, .int .i64 5, .int .i64 6, .int .i64 6] 3)) (hS.out.cur.grow (bal (bb _) _)) (by omega) (by decide) (by decide) (ints_new rfl fun j hj => by
        match j, hj with
        | 0, _ => exact ⟨_, rfl, by decide, by decide⟩
        | 1, _ => exact ⟨_, rfl, by decide, by decide⟩
        | 2, _ => exact ⟨_, rfl, by decide, by decide⟩
        | 3, _ => exact ⟨_, rfl, by decide, by decide⟩
        | 4, _ => exact ⟨_, rfl, by decide, by decide⟩
        | 5, _ => exact ⟨_, rfl, by decide, by decide⟩
        | 6, _ => exact ⟨_, rfl, by decide, by decide⟩
        | 7, _ => exact ⟨_, rfl, by decide, by decide⟩
        | 8, _ => exact ⟨_, rfl, by decide, by decide⟩
        | 9, _ => exact ⟨_, rfl, by decide, by decide⟩) (by omega))
      go_wp2_with fail
      refine hcall.out.mono ?_
      rintro e w3 ⟨_, ⟨x, hx0, hx1, rfl⟩, rfl, hi3, hc3⟩
      have S3 := ((hS.out.alloc _).turn hi3 hc3).alloc_box #[.int .i64 x, .int .i64 0, .int .i64 0] 41
      obtain ⟨b7, hb7⟩ : ∃ b, w3.heap.size = b := ⟨_, rfl⟩
      rw [hb7] at S3
      replace S3 := Lib.hid S3
      clear hS hcall hi3 hc3
      go_upto_region 7 with fail
      go_cut [31] (fun s wx => ∃ q : Bool, s = .bool q ∧ Hid (q = true → j = 0) ∧ Hid (q = false → j = 0 → x ≤ 3) ∧ Hid (CS w g ca cl cc (A + 2 + 10 * j + 2) wx [Box b7 41 #[.int .i64 x, .int .i64 0, .int .i64 0], Own 41 3 (.slice aO j cO) j (M.flatMap gtEnc)]))
      case first =>
        have d0 := S3.out.cell (i := 0) rfl (o := 0) rfl
        by_cases hj0 : j = 0
        · have hjd : ((j : Int) == 0) = true := by rw [hj0]; rfl
          replace hj0 := Lib.hid hj0
          by_cases hx3 : 3 < x
          · go_wp2_with fail
            go_meet
            exact ⟨true, rfl, fun _ => hj0.out, fun h => absurd h (by decide), S3⟩
          · have hx3' : x ≤ 3 := by omega
            go_wp2_with fail
            go_meet
            exact ⟨false, rfl, fun h => absurd h (by decide), fun _ _ => hx3', S3⟩
        · have hji : ¬ (j : Int) = 0 := by omega
          have hjd : ((j : Int) == 0) = false := beq_eq_false_iff_ne.2 hji
          go_wp2_with fail
          go_meet
          exact ⟨false, rfl, fun h => absurd h (by decide), fun _ h => absurd h hj0, S3⟩
      case rest =>
      obtain ⟨q, rfl, hq1, hq2, S4⟩ := hcut
      clear S3
      go_upto_if 31 with fail
      go_cut [] (fun wx => ∃ y : Int, 1 ≤ y ∧ y ≤ 6 ∧ Hid (j = 0 → y ≤ 3) ∧ Hid (CS w g ca cl cc (A + 2 + 10 * j + 2) wx [Box b7 41 #[.int .i64 y, .int .i64 0, .int .i64 0], Own 41 3 (.slice aO j cO) j (M.flatMap gtEnc)]))
      case first =>
        have f0 := S4.out.frozen (i := 0) rfl 0
        have d0 := S4.out.cell (i := 0) rfl (o := 0) rfl
        cases q
        · go_wp2_with fail
          go_meet
          exact ⟨x, hx0, hx1, hq2.out (by first | rfl | trivial), S4⟩
        · have S5 := Lib.hid (S4.out.store (i := 0) rfl 0 (.int .i64 1))
          go_wp2_with fail
          go_meet
          exact ⟨1, by decide, by decide, fun _ => by decide, S5⟩
      case rest =>
      obtain ⟨y, hy0, hy1, hyj, S5⟩ := hcut
      clear S4 hq1 hq2 hx0 hx1
      go_upto_region 9 with fail
      go_cut [39] (fun s wx => ∃ q : Bool, s = .bool q ∧ Hid (CS w g ca cl cc (A + 2 + 10 * j + 2) wx [Box b7 41 #[.int .i64 y, .int .i64 0, .int .i64 0], Own 41 3 (.slice aO j cO) j (M.flatMap gtEnc)]))
      case first =>
        have d0 := S5.out.cell (i := 0) rfl (o := 0) rfl
        by_cases hvs : vars < 1
        · by_cases hy : y = 1
          · have hyd : (y == 1) = true := by rw [hy]; rfl
            clear hy
            go_wp2_with fail
            go_meet
            exact ⟨_, rfl, S5⟩
          · have hyd : (y == 1) = false := beq_eq_false_iff_ne.2 hy
            go_wp2_with fail
            go_meet
            exact ⟨_, rfl, S5⟩
        · have hvs' : 1 ≤ vars := by omega
          go_wp2_with fail
          go_meet
          exact ⟨_, rfl, S5⟩
      case rest =>
      obtain ⟨q, rfl, S6⟩ := hcut
      clear S5
      go_upto_if 39 with fail
      go_cut [] (fun wx => ∃ y : Int, 1 ≤ y ∧ y ≤ 6 ∧ Hid (j = 0 → y ≤ 3) ∧ Hid (CS w g ca cl cc (A + 2 + 10 * j + 2) wx [Box b7 41 #[.int .i64 y, .int .i64 0, .int .i64 0], Own 41 3 (.slice aO j cO) j (M.flatMap gtEnc)]))
      case first =>
        have f0 := S6.out.frozen (i := 0) rfl 0
        have d0 := S6.out.cell (i := 0) rfl (o := 0) rfl
        cases q
        · go_wp2_with fail
          go_meet
          exact ⟨y, hy0, hy1, hyj.out, S6⟩
        · have S7 := Lib.hid (S6.out.store (i := 0) rfl 0 (.int .i64 2))
          go_wp2_with fail
          go_meet
          exact ⟨2, by decide, by decide, fun _ => by decide, S7⟩
      case rest =>
      clear S6 hy0 hy1 hyj q y
      obtain ⟨y, hy0, hy1, hyj, S7⟩ := hcut
      have d0 := S7.out.cell (i := 0) rfl (o := 0) rfl
      have d1 := S7.out.cell (i := 0) rfl (o := 1) rfl
      have d2 := S7.out.cell (i := 0) rfl (o := 2) rfl
      have f1 := S7.out.frozen (i := 0) rfl 1
      have f2 := S7.out.frozen (i := 0) rfl 2
      by_cases y1 : y = 1
      · subst y1
        go_wp2_with fail
        refine (l1LeastG_any vars 12 _).mono ?_
        rintro e wn ⟨t, rfl, ht1, ht2, rfl⟩
        have hpk := Lib.hid (cur_pick_at (lo := 0) (hi := 11) (n := t) S7.out.cur (by omega) (by omega) (by omega) (by omega) (by omega))
        go_wp2_with fail
        refine hpk.out.mono ?_
        rintro e w5 ⟨_, ⟨r, hr0, hr1, rfl⟩, rfl, hi5, hc5⟩
        have S8 := S7.out.turn hi5 hc5
        have hw1 : IntKind.i64.wrap (1 + r) = 1 + r := IntWalk.i64_in _ (by omega)
        have e1 := S8.cell (i := 0) rfl (o := 1) rfl
        have f1 := S8.frozen (i := 0) rfl 1
        have S9 := S8.store (i := 0) rfl 1 (.int .i64 (1 + r))
        have d0 := S9.cell (i := 0) rfl (o := 0) rfl
        have d1 := S9.cell (i := 0) rfl (o := 1) rfl
        have d2 := S9.cell (i := 0) rfl (o := 2) rfl
        have hS := Lib.hid S9
        clear S7 S8 S9 hi5 hc5 hpk
        have S3 := hS.out.alloc_box #[.int .i64 1, .int .i64 (1 + r), .int .i64 0] 41
        (try simp only [World.size_setCell] at S3)
        have kG0 := S3.cell (i := 0) rfl (o := 0) rfl
        have kG1 := S3.cell (i := 0) rfl (o := 1) rfl
        have kG2 := S3.cell (i := 0) rfl (o := 2) rfl
        replace S3 := Lib.hid S3
        clear hS
        go_wp2_with (at_builtin; refine wpList_append_src rfl _ _ rfl Try.underlying28 hi0 hz0 hz1 hz2 rfl (by decide) _ j _ rfl (S3.out.own (i := 2) rfl) _ 1 1 [.int .i64 1, .int .i64 (1 + r), .int .i64 0] rfl (Src.threeG kG0 kG1 kG2) (by simp [Value.oneCell']) ?c3 ?c4 ?_)
        case c3 => unfold maxLen; omega
        case c4 => omega
        intro vE wE hownE hgE hatE
        have S4 := (S3.out.own_push (i := 2) rfl (bb _) hownE hgE (by simpa using hatE)).tail
        simp only [List.set_cons_zero, List.set_cons_succ] at S4
        obtain ⟨aE, cE, rfl⟩ := own_slice hownE
        have hS := Lib.hid S4
        clear S3 S4 kG0 kG1 kG2 hownE hgE hatE
        go_wp2_with fail
        go_roundw
        case rel =>
          refine ⟨j + 1, _, _, M ++ [⟨1, (1 + r), 0⟩], rfl, by have := hz.out; omega, by have := hz.out; omega, rfl, ?_, ?_, ?_⟩
          · unfold Hid; rw [List.length_append, hMl.out]; rfl
          · exact gtS_snoc hMs.out (by unfold gtS; dsimp only; omega)
          · unfold Hid; rw [flat_snoc]; exact hS.out.tail.mono (by omega)
        case measure => simp [intOf]; omega
      by_cases y4 : y = 4
      · subst y4
        have hpk := Lib.hid (cur_pick_at (lo := 0) (hi := 11) (n := (j : Int)) S7.out.cur (by omega) (by omega) (by omega) (by omega) (by omega))
        go_wp2_with fail
        refine hpk.out.mono ?_
        rintro e w5 ⟨_, ⟨r, hr0, hr1, rfl⟩, rfl, hi5, hc5⟩
        have S8 := S7.out.turn hi5 hc5
        have e1 := S8.cell (i := 0) rfl (o := 1) rfl
        have f1 := S8.frozen (i := 0) rfl 1
        have S9 := S8.store (i := 0) rfl 1 (.int .i64 r)
        have d0 := S9.cell (i := 0) rfl (o := 0) rfl
        have d1 := S9.cell (i := 0) rfl (o := 1) rfl
        have d2 := S9.cell (i := 0) rfl (o := 2) rfl
        have hS := Lib.hid S9
        clear S7 S8 S9 hi5 hc5 hpk
        have S3 := hS.out.alloc_box #[.int .i64 4, .int .i64 r, .int .i64 0] 41
        (try simp only [World.size_setCell] at S3)
        have kG0 := S3.cell (i := 0) rfl (o := 0) rfl
        have kG1 := S3.cell (i := 0) rfl (o := 1) rfl
        have kG2 := S3.cell (i := 0) rfl (o := 2) rfl
        replace S3 := Lib.hid S3
        clear hS
        go_wp2_with (at_builtin; refine wpList_append_src rfl _ _ rfl Try.underlying28 hi0 hz0 hz1 hz2 rfl (by decide) _ j _ rfl (S3.out.own (i := 2) rfl) _ 1 1 [.int .i64 4, .int .i64 r, .int .i64 0] rfl (Src.threeG kG0 kG1 kG2) (by simp [Value.oneCell']) ?c3 ?c4 ?_)
        case c3 => unfold maxLen; omega
        case c4 => omega
        intro vE wE hownE hgE hatE
        have S4 := (S3.out.own_push (i := 2) rfl (bb _) hownE hgE (by simpa using hatE)).tail
        simp only [List.set_cons_zero, List.set_cons_succ] at S4
        obtain ⟨aE, cE, rfl⟩ := own_slice hownE
        have hS := Lib.hid S4
        clear S3 S4 kG0 kG1 kG2 hownE hgE hatE
        go_wp2_with fail
        go_roundw
        case rel =>
          refine ⟨j + 1, _, _, M ++ [⟨4, r, 0⟩], rfl, by have := hz.out; omega, by have := hz.out; omega, rfl, ?_, ?_, ?_⟩
          · unfold Hid; rw [List.length_append, hMl.out]; rfl
          · exact gtS_snoc hMs.out (by unfold gtS; dsimp only; omega)
          · unfold Hid; rw [flat_snoc]; exact hS.out.tail.mono (by omega)
        case measure => simp [intOf]; omega
      by_cases y5 : y = 5
      · subst y5
        have hjp : 0 < j := by
          rcases Nat.eq_zero_or_pos j with h0 | h0
          · have := hyj.out h0; omega
          · exact h0
        have hw0 : IntKind.i64.wrap ((j : Int) - 1) = (j : Int) - 1 := IntWalk.i64_in _ (by omega)
        go_wp2_with fail
        refine (l1LeastG_any (j : Int) 4 _).mono ?_
        rintro e wn ⟨t, rfl, ht1, ht2, rfl⟩
        have hpk := Lib.hid (cur_pick_at (lo := 0) (hi := 3) (n := t) S7.out.cur (by omega) (by omega) (by omega) (by omega) (by omega))
        go_wp2_with fail
        refine hpk.out.mono ?_
        rintro e w5 ⟨_, ⟨r, hr0, hr1, rfl⟩, rfl, hi5, hc5⟩
        have S8 := S7.out.turn hi5 hc5
        have hw1 : IntKind.i64.wrap ((j : Int) - 1 - r) = (j : Int) - 1 - r := IntWalk.i64_in _ (by omega)
        have e1 := S8.cell (i := 0) rfl (o := 1) rfl
        have f1 := S8.frozen (i := 0) rfl 1
        have S9 := Lib.hid (S8.store (i := 0) rfl 1 (.int .i64 ((j : Int) - 1 - r)))
        have hpk2 := Lib.hid (cur_pick_at (lo := 0) (hi := 11) (n := (j : Int)) S9.out.cur (by omega) (by omega) (by omega) (by omega) (by omega))
        clear S7 S8 hi5 hc5 hpk
        go_wp2_with fail
        refine hpk2.out.mono ?_
        rintro e w6 ⟨_, ⟨r2, hr20, hr21, rfl⟩, rfl, hi6, hc6⟩
        have SA := S9.out.turn hi6 hc6
        have e2 := SA.cell (i := 0) rfl (o := 2) rfl
        have f2 := SA.frozen (i := 0) rfl 2
        have SB := SA.store (i := 0) rfl 2 (.int .i64 r2)
        have d0 := SB.cell (i := 0) rfl (o := 0) rfl
        have d1 := SB.cell (i := 0) rfl (o := 1) rfl
        have d2 := SB.cell (i := 0) rfl (o := 2) rfl
        have hS := Lib.hid SB
        clear S9 SA SB hi6 hc6 hpk2
        have S3 := hS.out.alloc_box #[.int .i64 5, .int .i64 ((j : Int) - 1 - r), .int .i64 r2] 41
        (try simp only [World.size_setCell] at S3)
        have kG0 := S3.cell (i := 0) rfl (o := 0) rfl
        have kG1 := S3.cell (i := 0) rfl (o := 1) rfl
        have kG2 := S3.cell (i := 0) rfl (o := 2) rfl
        replace S3 := Lib.hid S3
        clear hS
        go_wp2_with (at_builtin; refine wpList_append_src rfl _ _ rfl Try.underlying28 hi0 hz0 hz1 hz2 rfl (by decide) _ j _ rfl (S3.out.own (i := 2) rfl) _ 1 1 [.int .i64 5, .int .i64 ((j : Int) - 1 - r), .int .i64 r2] rfl (Src.threeG kG0 kG1 kG2) (by simp [Value.oneCell']) ?c3 ?c4 ?_)
        case c3 => unfold maxLen; omega
        case c4 => omega
        intro vE wE hownE hgE hatE
        have S4 := (S3.out.own_push (i := 2) rfl (bb _) hownE hgE (by simpa using hatE)).tail
        simp only [List.set_cons_zero, List.set_cons_succ] at S4
        obtain ⟨aE, cE, rfl⟩ := own_slice hownE
        have hS := Lib.hid S4
        clear S3 S4 kG0 kG1 kG2 hownE hgE hatE
        go_wp2_with fail
        go_roundw
        case rel =>
          refine ⟨j + 1, _, _, M ++ [⟨5, ((j : Int) - 1 - r), r2⟩], rfl, by have := hz.out; omega, by have := hz.out; omega, rfl, ?_, ?_, ?_⟩
          · unfold Hid; rw [List.length_append, hMl.out]; rfl
          · exact gtS_snoc hMs.out (by unfold gtS; dsimp only; omega)
          · unfold Hid; rw [flat_snoc]; exact hS.out.tail.mono (by omega)
        case measure => simp [intOf]; omega
      by_cases y6 : y = 6
      · subst y6
        have hjp : 0 < j := by
          rcases Nat.eq_zero_or_pos j with h0 | h0
          · have := hyj.out h0; omega
          · exact h0
        have hw0 : IntKind.i64.wrap ((j : Int) - 1) = (j : Int) - 1 := IntWalk.i64_in _ (by omega)
        go_wp2_with fail
        refine (l1LeastG_any (j : Int) 4 _).mono ?_
        rintro e wn ⟨t, rfl, ht1, ht2, rfl⟩
        have hpk := Lib.hid (cur_pick_at (lo := 0) (hi := 3) (n := t) S7.out.cur (by omega) (by omega) (by omega) (by omega) (by omega))
        go_wp2_with fail
        refine hpk.out.mono ?_
        rintro e w5 ⟨_, ⟨r, hr0, hr1, rfl⟩, rfl, hi5, hc5⟩
        have S8 := S7.out.turn hi5 hc5
        have hw1 : IntKind.i64.wrap ((j : Int) - 1 - r) = (j : Int) - 1 - r := IntWalk.i64_in _ (by omega)
        have e1 := S8.cell (i := 0) rfl (o := 1) rfl
        have f1 := S8.frozen (i := 0) rfl 1
        have S9 := Lib.hid (S8.store (i := 0) rfl 1 (.int .i64 ((j : Int) - 1 - r)))
        have hpk2 := Lib.hid (cur_pick_at (lo := 0) (hi := 11) (n := (j : Int)) S9.out.cur (by omega) (by omega) (by omega) (by omega) (by omega))
        clear S7 S8 hi5 hc5 hpk
        go_wp2_with fail
        refine hpk2.out.mono ?_
        rintro e w6 ⟨_, ⟨r2, hr20, hr21, rfl⟩, rfl, hi6, hc6⟩
        have SA := S9.out.turn hi6 hc6
        have e2 := SA.cell (i := 0) rfl (o := 2) rfl
        have f2 := SA.frozen (i := 0) rfl 2
        have SB := SA.store (i := 0) rfl 2 (.int .i64 r2)
        have d0 := SB.cell (i := 0) rfl (o := 0) rfl
        have d1 := SB.cell (i := 0) rfl (o := 1) rfl
        have d2 := SB.cell (i := 0) rfl (o := 2) rfl
        have hS := Lib.hid SB
        clear S9 SA SB hi6 hc6 hpk2
        have S3 := hS.out.alloc_box #[.int .i64 6, .int .i64 ((j : Int) - 1 - r), .int .i64 r2] 41
        (try simp only [World.size_setCell] at S3)
        have kG0 := S3.cell (i := 0) rfl (o := 0) rfl
        have kG1 := S3.cell (i := 0) rfl (o := 1) rfl
        have kG2 := S3.cell (i := 0) rfl (o := 2) rfl
        replace S3 := Lib.hid S3
        clear hS
        go_wp2_with (at_builtin; refine wpList_append_src rfl _ _ rfl Try.underlying28 hi0 hz0 hz1 hz2 rfl (by decide) _ j _ rfl (S3.out.own (i := 2) rfl) _ 1 1 [.int .i64 6, .int .i64 ((j : Int) - 1 - r), .int .i64 r2] rfl (Src.threeG kG0 kG1 kG2) (by simp [Value.oneCell']) ?c3 ?c4 ?_)
        case c3 => unfold maxLen; omega
        case c4 => omega
        intro vE wE hownE hgE hatE
        have S4 := (S3.out.own_push (i := 2) rfl (bb _) hownE hgE (by simpa using hatE)).tail
        simp only [List.set_cons_zero, List.set_cons_succ] at S4
        obtain ⟨aE, cE, rfl⟩ := own_slice hownE
        have hS := Lib.hid S4
        clear S3 S4 kG0 kG1 kG2 hownE hgE hatE
        go_wp2_with fail
        go_roundw
        case rel =>
          refine ⟨j + 1, _, _, M ++ [⟨6, ((j : Int) - 1 - r), r2⟩], rfl, by have := hz.out; omega, by have := hz.out; omega, rfl, ?_, ?_, ?_⟩
          · unfold Hid; rw [List.length_append, hMl.out]; rfl
          · exact gtS_snoc hMs.out (by unfold gtS; dsimp only; omega)
          · unfold Hid; rw [flat_snoc]; exact hS.out.tail.mono (by omega)
        case measure => simp [intOf]; omega
      have hS := S7
      clear S7
      have S3 := hS.out.alloc_box #[.int .i64 y, .int .i64 0, .int .i64 0] 41
      (try simp only [World.size_setCell] at S3)
      have kG0 := S3.cell (i := 0) rfl (o := 0) rfl
      have kG1 := S3.cell (i := 0) rfl (o := 1) rfl
      have kG2 := S3.cell (i := 0) rfl (o := 2) rfl
      replace S3 := Lib.hid S3
      clear hS
      go_wp2_with (at_builtin; refine wpList_append_src rfl _ _ rfl Try.underlying28 hi0 hz0 hz1 hz2 rfl (by decide) _ j _ rfl (S3.out.own (i := 2) rfl) _ 1 1 [.int .i64 y, .int .i64 0, .int .i64 0] rfl (Src.threeG kG0 kG1 kG2) (by simp [Value.oneCell']) ?c3 ?c4 ?_)
      case c3 => unfold maxLen; omega
      case c4 => omega
      intro vE wE hownE hgE hatE
      have S4 := (S3.out.own_push (i := 2) rfl (bb _) hownE hgE (by simpa using hatE)).tail
      simp only [List.set_cons_zero, List.set_cons_succ] at S4
      obtain ⟨aE, cE, rfl⟩ := own_slice hownE
      have hS := Lib.hid S4
      clear S3 S4 kG0 kG1 kG2 hownE hgE hatE
      go_wp2_with fail
      go_roundw
      case rel =>
        refine ⟨j + 1, _, _, M ++ [⟨y, 0, 0⟩], rfl, by have := hz.out; omega, by have := hz.out; omega, rfl, ?_, ?_, ?_⟩
        · unfold Hid; rw [List.length_append, hMl.out]; rfl
        · exact gtS_snoc hMs.out (by unfold gtS; dsimp only; omega)
        · unfold Hid; rw [flat_snoc]; exact hS.out.tail.mono (by omega)
      case measure => simp [intOf]; omega
    · have hzz : z = -1 := by have := hz.out; omega
      have hjz : (j : Int) = z0 + 1 := by have := hz.out; omega
      obtain ⟨m, hm⟩ : ∃ m, j = m + 1 := ⟨j - 1, by omega⟩
      have hz0' : z < 0 := by omega
      have hj11 : j ≤ 11 := by omega
      have hjp : 0 < j := by omega
      replace hm := Lib.hid hm
      replace hjz := Lib.hid hjz
      replace hj := Lib.hid hj
      clear hzz
      have hpk := Lib.hid (cur_pick_at (lo := 0) (hi := 29) (n := 30) hS.out.cur (by omega) (by omega) (by omega) (by omega) (by omega))
      go_wp2_with fail
      refine hpk.out.mono ?_
      rintro e w5 ⟨_, ⟨x, hx0, hx1, rfl⟩, rfl, hi5, hc5⟩
      have S1 := Lib.hid (hS.out.turn hi5 hc5)
      clear hS hpk hi5 hc5
      obtain ⟨gx, capx, curx, e, -, hh, -, -, -, ht⟩ := own_block (S1.out.own (i := 0) rfl) hjp
      cases e
      clear hh ht curx
      by_cases x0 : x = 0
      · subst x0
        have hpk := Lib.hid (cur_pick_at (lo := 0) (hi := (j : Int) - 1) (n := (j : Int)) S1.out.cur (by omega) (by omega) (by omega) (by omega) (by omega))
        go_wp2_with fail
        refine hpk.out.mono ?_
        rintro e w5 ⟨_, ⟨k', hk0, hk1, rfl⟩, rfl, hi5, hc5⟩
        obtain ⟨k, rfl⟩ : ∃ k : Nat, k' = k := ⟨k'.toNat, by omega⟩
        have hkj : k < j := by omega
        have hki : (k : Int) < j := by omega
        have S2 := Lib.hid (S1.out.turn hi5 hc5)
        clear S1 hpk hi5 hc5
        have hwv : IntKind.i64.wrap (vars + 1) = vars + 1 := IntWalk.i64_in _ (by omega)
        have hgl : g < w5.heap.size := S2.out.cur.lt
        have ham := Lib.hid (cur_among (-1) 14 w5.heap.size 0 5 5 _ g ca cl cc (w5.alloc (.cells #[.int .i64 (-1), .int .i64 0, .int .i64 k, .int .i64 j, .int .i64 (vars + 1)] 3)) (S2.out.cur.grow (bal (bb _) _)) (by omega) (by decide) (by decide) (ints_new rfl fun j hj => by
          match j, hj with
          | 0, _ => exact ⟨_, rfl, by omega, by omega⟩
          | 1, _ => exact ⟨_, rfl, by omega, by omega⟩
          | 2, _ => exact ⟨_, rfl, by omega, by omega⟩
          | 3, _ => exact ⟨_, rfl, by omega, by omega⟩
          | 4, _ => exact ⟨_, rfl, by omega, by omega⟩) (by omega))
        go_wp2_with fail
        refine ham.out.mono ?_
        rintro e w6 ⟨_, ⟨v, hv0', hv1', rfl⟩, rfl, hi6, hc6⟩
        have S3 := (S2.out.alloc _).turn hi6 hc6
        obtain ⟨gy, capy, cury, e, -, hh, -, -, -, ht⟩ := own_block (S3.own (i := 0) rfl) hjp
        cases e
        have hfl := flat_len3 M
        rw [hMl.out] at hfl
        have hcf := own_at hh ht (o := k * 3 + 1) (by omega)
        obtain ⟨zz, hzz, -, -⟩ := small_flat hMs.out ((M.flatMap gtEnc)[k * 3 + 1]'(by omega)) (List.getElem_mem _)
        rw [List.getElem?_eq_getElem (by omega), hzz] at hcf
        obtain ⟨t0, t1⟩ := hcf
        have S4 := Lib.hid (S3.own_put (i := 0) rfl (o := k * 3 + 1) (.int .i64 v) (by omega))
        clear S2 S3 hi6 hc6 ham hh ht
        go_wp2_with fail
        go_ret
        exact CircPost.of_set hMl.out (by omega) hMs.out (by omega) (by omega) (S4.out.mono (by omega))
      by_cases x1 : x = 1
      · subst x1
        have hpk := Lib.hid (cur_pick_at (lo := 0) (hi := (j : Int) - 1) (n := (j : Int)) S1.out.cur (by omega) (by omega) (by omega) (by omega) (by omega))
        go_wp2_with fail
        refine hpk.out.mono ?_
        rintro e w5 ⟨_, ⟨k', hk0, hk1, rfl⟩, rfl, hi5, hc5⟩
        obtain ⟨k, rfl⟩ : ∃ k : Nat, k' = k := ⟨k'.toNat, by omega⟩
        have hkj : k < j := by omega
        have hki : (k : Int) < j := by omega
        have S2 := Lib.hid (S1.out.turn hi5 hc5)
        clear S1 hpk hi5 hc5
        have hgl : g < w5.heap.size := S2.out.cur.lt
        have ham := Lib.hid (cur_among (-1) 14 w5.heap.size 0 3 3 _ g ca cl cc (w5.alloc (.cells #[.int .i64 (-1), .int .i64 1, .int .i64 j] 3)) (S2.out.cur.grow (bal (bb _) _)) (by omega) (by decide) (by decide) (ints_new rfl fun j hj => by
          match j, hj with
          | 0, _ => exact ⟨_, rfl, by omega, by omega⟩
          | 1, _ => exact ⟨_, rfl, by omega, by omega⟩
          | 2, _ => exact ⟨_, rfl, by omega, by omega⟩) (by omega))
        go_wp2_with fail
        refine ham.out.mono ?_
        rintro e w6 ⟨_, ⟨v, hv0', hv1', rfl⟩, rfl, hi6, hc6⟩
        have S3 := (S2.out.alloc _).turn hi6 hc6
        obtain ⟨gy, capy, cury, e, -, hh, -, -, -, ht⟩ := own_block (S3.own (i := 0) rfl) hjp
        cases e
        have hfl := flat_len3 M
        rw [hMl.out] at hfl
        have hcf := own_at hh ht (o := k * 3 + 2) (by omega)
        obtain ⟨zz, hzz, -, -⟩ := small_flat hMs.out ((M.flatMap gtEnc)[k * 3 + 2]'(by omega)) (List.getElem_mem _)
        rw [List.getElem?_eq_getElem (by omega), hzz] at hcf
        obtain ⟨t0, t1⟩ := hcf
        have S4 := Lib.hid (S3.own_put (i := 0) rfl (o := k * 3 + 2) (.int .i64 v) (by omega))
        clear S2 S3 hi6 hc6 ham hh ht
        go_wp2_with fail
        go_ret
        exact CircPost.of_set hMl.out (by omega) hMs.out (by omega) (by omega) (S4.out.mono (by omega))
      by_cases x2 : x = 2
      · subst x2
        have hpk := Lib.hid (cur_pick_at (lo := 0) (hi := (j : Int) - 1) (n := (j : Int)) S1.out.cur (by omega) (by omega) (by omega) (by omega) (by omega))
        go_wp2_with fail
        refine hpk.out.mono ?_
        rintro e w5 ⟨_, ⟨k', hk0, hk1, rfl⟩, rfl, hi5, hc5⟩
        obtain ⟨k, rfl⟩ : ∃ k : Nat, k' = k := ⟨k'.toNat, by omega⟩
        have hkj : k < j := by omega
        have hki : (k : Int) < j := by omega
        have S2 := Lib.hid (S1.out.turn hi5 hc5)
        clear S1 hpk hi5 hc5
        have hgl : g < w5.heap.size := S2.out.cur.lt
        have ham := Lib.hid (cur_among (0) 14 w5.heap.size 0 4 4 _ g ca cl cc (w5.alloc (.cells #[.int .i64 0, .int .i64 7, .int .i64 2, .int .i64 4] 3)) (S2.out.cur.grow (bal (bb _) _)) (by omega) (by decide) (by decide) (ints_new rfl fun j hj => by
          match j, hj with
          | 0, _ => exact ⟨_, rfl, by omega, by omega⟩
          | 1, _ => exact ⟨_, rfl, by omega, by omega⟩
          | 2, _ => exact ⟨_, rfl, by omega, by omega⟩
          | 3, _ => exact ⟨_, rfl, by omega, by omega⟩) (by omega))
        go_wp2_with fail
        refine ham.out.mono ?_
        rintro e w6 ⟨_, ⟨v, hv0', hv1', rfl⟩, rfl, hi6, hc6⟩
        have S3 := (S2.out.alloc _).turn hi6 hc6
        obtain ⟨gy, capy, cury, e, -, hh, -, -, -, ht⟩ := own_block (S3.own (i := 0) rfl) hjp
        cases e
        have hfl := flat_len3 M
        rw [hMl.out] at hfl
        have hcf := own_at hh ht (o := k * 3) (by omega)
        obtain ⟨zz, hzz, -, -⟩ := small_flat hMs.out ((M.flatMap gtEnc)[k * 3]'(by omega)) (List.getElem_mem _)
        rw [List.getElem?_eq_getElem (by omega), hzz] at hcf
        obtain ⟨t0, t1⟩ := hcf
        have S4 := Lib.hid (S3.own_put (i := 0) rfl (o := k * 3) (.int .i64 v) (by omega))
        clear S2 S3 hi6 hc6 ham hh ht
        go_wp2_with fail
        go_ret
        exact CircPost.of_set hMl.out (by omega) hMs.out (by omega) (by omega) (S4.out.mono (by omega))
      by_cases x3 : x = 3
      · subst x3
        have hc0 : (0 : Int) ≤ cO := by omega
        go_wp2_with fail
        go_ret
        exact ⟨_, _, [], rfl, by simp, ⟨fun j hj => absurd hj (by simp), by simp⟩, fun a ha => by
          obtain ⟨F, ⟨rfl, hF⟩, hb⟩ := S1.out.get (i := 0) rfl
          cases ha
          exact hb gx (by simp [Value.ownBlock]), S1.out.tail.mono (by omega)⟩
      by_cases x4 : x = 4
      · subst x4
        have hpk := Lib.hid (cur_pick_at (lo := 0) (hi := 2) (n := 3) S1.out.cur (by omega) (by omega) (by omega) (by omega) (by omega))
        go_wp2_with fail
        refine hpk.out.mono ?_
        rintro e w5 ⟨_, ⟨r, hr0, hr1, rfl⟩, rfl, hi5, hc5⟩
        have S2 := Lib.hid (S1.out.turn hi5 hc5)
        have hw1 : IntKind.i64.wrap (199 + r) = 199 + r := IntWalk.i64_in _ (by omega)
        clear S1 hpk hi5 hc5
        go_wp2_with fail
        go_loopw [5] (fun o wr => ∃ (q : Nat) (M2 : List Gt) (b : Option Addr) (cp : Nat), q ≤ 202 ∧ 0 < q ∧ o = .slice b q cp ∧ Hid (M2.length = q) ∧ Hid (∀ x ∈ M2, gtS x) ∧ Hid (CS w g ca cl cc (A + 2 + 10 * j + 2 + 2) wr [Own 41 3 (.slice b q cp) q (M2.flatMap gtEnc)])) (fun o _ => 300 - lenOf o)
        case atStart => exact ⟨j, M, _, _, by omega, hjp, rfl, hMl, hMs, S2⟩
        case round =>
          obtain ⟨q, M2, b, cp, hq, hqp, rfl, hl2, hs2, hS⟩ := hrel
          clear S2
          by_cases hlt : (q : Int) < 199 + r
          · have hwq : IntKind.i64.wrap ((q : Int) - 1) = (q : Int) - 1 := IntWalk.i64_in _ (by omega)
            have S3 := hS.out.alloc_box #[.int .i64 6, .int .i64 ((q : Int) - 1), .int .i64 0] 41
            (try simp only [World.size_setCell] at S3)
            have kG0 := S3.cell (i := 0) rfl (o := 0) rfl
            have kG1 := S3.cell (i := 0) rfl (o := 1) rfl
            have kG2 := S3.cell (i := 0) rfl (o := 2) rfl
            replace S3 := Lib.hid S3
            clear hS
            go_wp2_with (at_builtin; refine wpList_append_src rfl _ _ rfl Try.underlying28 hi0 hz0 hz1 hz2 rfl (by decide) _ q _ rfl (S3.out.own (i := 1) rfl) _ 1 1 [.int .i64 6, .int .i64 ((q : Int) - 1), .int .i64 0] rfl (Src.threeG kG0 kG1 kG2) (by simp [Value.oneCell']) ?c3 ?c4 ?_)
            case c3 => unfold maxLen; omega
            case c4 => omega
            intro vE wE hownE hgE hatE
            have S4 := (S3.out.own_push (i := 1) rfl (bb _) hownE hgE (by simpa using hatE)).tail
            simp only [List.set_cons_zero, List.set_cons_succ] at S4
            obtain ⟨aE, cE, rfl⟩ := own_slice hownE
            have hS := Lib.hid S4
            clear S3 S4 kG0 kG1 kG2 hownE hgE hatE
            go_wp2_with fail
            go_roundw
            case rel =>
              refine ⟨q + 1, M2 ++ [⟨6, (q : Int) - 1, 0⟩], _, _, by omega, by omega, rfl, ?_, ?_, ?_⟩
              · unfold Hid; rw [List.length_append, hl2.out]; rfl
              · exact gtS_snoc hs2.out (by unfold gtS; dsimp only; omega)
              · unfold Hid; rw [flat_snoc]; exact hS.out
            case measure => simp [lenOf]; omega
          · have hlt2 : 199 + r ≤ (q : Int) := by omega
            go_wp2_with fail
            go_ret
            exact CircPost.of_own hl2.out (by omega) hs2.out (hS.out.mono (by omega))
      have S2 := S1
      clear S1
      go_wp2_with fail
      go_ret
      exact CircPost.of_own hMl.out (by omega) hMs.out (S2.out.mono (by omega))
end Go.Proofs.Ytkhopkonddgicaa

/- Contract: the input of a law on circuits. -/
namespace Go.Proofs.Ytkhopkonddgicaa
open Go.RowKit

/-- A drawn number of variables and a drawn circuit. -/
def CircD (w : World) (e : Ending) (w' : World) : Prop :=
  ∃ (vars : Int) (B : Option Addr) (cap : Nat) (M : List Gt), e = .returned (.tuple #[.int .i64 vars, .slice B M.length cap]) ∧ -1 ≤ vars ∧ vars ≤ 13 ∧ M.length ≤ 300 ∧ GtAt w' B M ∧ Below w.heap.size w w'

set_option maxRecDepth 100000 in
set_option maxHeartbeats 4000000 in
theorem drawIsCircuit_any (ca : Option Addr) (cl cc : Nat) (w : World) (hc : CodeOk w ca cl) (hs : cl ≤ 65536) : Calls Try.prog 56 #[.slice ca cl cc] w (CircD w) := by
  have S0 := (Sp.start w).cur_laid ca cl cc
  have hi := Lib.hid (S0.cur (A' := 0) (i := 0) rfl hc hs).1
  have hB0 := Lib.hid S0.below
  clear S0
  go_enter Try.func56, Try.ntmps56
  go_wp2_with fail
  refine (cur_vars6 0 w.heap.size ca cl cc _ hi.out (by omega)).mono ?_
  rintro e w1 ⟨_, ⟨vars, hv0, hv1, rfl⟩, rfl, hi1, hc1⟩
  have hB1 := Lib.hid (hB0.out.trans (hc1.below hB0.out.size (by simp)))
  have hci := Lib.hid (cur_circuit vars hv0 hv1 _ w.heap.size ca cl cc _ hi1 (by omega))
  clear hi hB0 hi1 hc1
  go_wp2_with fail
  refine hci.out.mono ?_
  rintro e w2 ⟨B, cap, M, rfl, hl, hG, -, hS⟩
  have hB2 := Lib.hid (hB1.out.trans (hS.chg.below hB1.out.size (by simp)))
  replace hG := Lib.hid hG
  clear hci hB1 hS
  go_wp2_with fail
  go_ret2
  exact ⟨vars, B, cap, M, rfl, hv0, hv1, hl, hG.out, hB2.out⟩

set_option maxRecDepth 100000 in
set_option maxHeartbeats 4000000 in
theorem drawFold_any (ca : Option Addr) (cl cc : Nat) (w : World) (hc : CodeOk w ca cl) (hs : cl ≤ 65536) : Calls Try.prog 18 #[.slice ca cl cc] w (CircD w) := by
  have hd := Lib.hid (drawIsCircuit_any ca cl cc w hc hs)
  clear hc
  go_enter Try.func18, Try.ntmps18
  go_wp2_with fail
  refine hd.out.mono ?_
  rintro e w2 ⟨vars, B, cap, M, rfl, hv0, hv1, hl, hG, hB⟩
  replace hG := Lib.hid hG
  replace hB := Lib.hid hB
  clear hd
  go_wp2_with fail
  go_ret2
  exact ⟨vars, B, cap, M, rfl, hv0, hv1, hl, hG.out, hB.out⟩
end Go.Proofs.Ytkhopkonddgicaa
