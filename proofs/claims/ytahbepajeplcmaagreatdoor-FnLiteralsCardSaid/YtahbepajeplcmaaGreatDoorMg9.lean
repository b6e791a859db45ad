/- Lemmas and contracts for a law, put together out of several texts: CyC CyD CyE CyF AsK AsL TnC. -/
import Derived.Test.YtahbepajeplcmaaGreatDoorMg8
import Derived.Test.YtahbepajeplcmaaGreatDoorMg7
import Derived.Test.YtahbepajeplcmaaGreatDoorMg1
import Derived.Test.YtahbepajeplcmaaGreatDoorMg2
import Derived.Test.YtahbepajeplcmaaGreatDoorMg5
/- Contract: a drawn Cnf without models. -/
namespace Go.Proofs.YtahbepajeplcmaaGreatDoor
open Go.RowKit

/-- Rows of small clauses. -/
def SmallR (n : Nat) (xss : List (List Int)) : Prop := ∀ c ∈ xss, (∀ x ∈ c, I64 x) ∧ c.length ≤ n
theorem SmallC.r {xss : List (List Int)} (h : SmallC xss) : SmallR 13 xss := fun c hc => ⟨(h c hc).1.i64 (by decide), (h c hc).2⟩
/-- A drawn Cnf. -/
def CnfPost (A g : Nat) (ca : Option Addr) (cl cc : Nat) (w : World) (e : Ending) (w' : World) : Prop := ∃ (vars : Int) (B : Option Addr) (cap : Nat) (cs : List Value) (xss : List (List Int)), e = .returned (.agg #[.int .i64 vars, .slice B xss.length cap]) ∧ -1 ≤ vars ∧ vars ≤ 13 ∧ xss.length ≤ 62 ∧ SmallR 13 xss ∧
  CS w g ca cl cc A w' [Rows Ty.int 43 (.slice B xss.length cap) cs xss]

set_option maxRecDepth 100000 in
set_option maxHeartbeats 8000000 in
theorem cur_hard (A g : Nat) (ca : Option Addr) (cl cc : Nat) (w : World) (h : CurIs A g ca cl cc w) (hA : A ≤ 40000000) :
    Calls Tryz.prog 156 #[.pointer (some ⟨g, 0, none⟩)] w (CnfPost (A + 400) g ca cl cc w) := by
  have hg := h.lt
  have S0 := Lib.hid ((CS.start h).alloc_box #[.int .i64 0, .slice none 0 0] 61)
  obtain ⟨i0, hi0, hy0, hy1, hy2⟩ := info_parts infoInt
  obtain ⟨i1, hi, hz0, hz1, hz2⟩ := info_parts infoRow
  clear h
  go_enter Tryz.func156, Tryz.ntmps156
  go_wp2_with fail
  refine (l2Hard_any _).mono ?_
  rintro e w1 ⟨rfl, hst, hb1⟩
  have hne : w.heap.size + 1 ≠ g := by omega
  simp only [World.size_alloc] at hst
  have S1 := S0.out.grow hb1
  have hof := Lib.hid (cur_of (TextLe 100) _ 0 15 15 A g ca cl cc _ S1.cur (by omega) (by decide) (by decide) hst hne)
  replace S1 := Lib.hid S1
  clear S0 hst hb1 hne
  go_wp2_with fail
  refine hof.out.mono ?_
  rintro e w2 ⟨_, ⟨s, hs, rfl⟩, rfl, hi2, hc2⟩
  have S2 := Lib.hid (S1.out.turn hi2 hc2)
  clear S1 hof hi2 hc2
  have hs1 : s.size ≤ 100 := hs
  have hs2 : s.size ≤ 100000 := by omega
  clear hs hs1
  go_wp2_with fail
  refine (l2KnownW_any s _ hs2).mono ?_
  rintro e w3 ⟨vars, B0, cap0, cs0, xss, rfl, hv0, hv1, hl60, HC0, T3⟩
  replace HC0 := Lib.hid HC0
  have S3 := (S2.out.seq T3).alloc_box #[.int .i64 vars, .slice B0 xss.length cap0] 61
  obtain ⟨fb, hfb⟩ : ∃ fb, w3.heap.size = fb := ⟨_, rfl⟩
  rw [hfb] at S3
  have S4 := S3.own_made 3 1
  simp only [World.size_alloc] at S4
  rw [hfb] at S4
  replace S4 := Lib.hid S4
  clear S2 S3 T3 hs2
  go_wp2_with fail
  go_loopw [4, 5] (fun vt vv wr => ∃ (tl : List Int) (TB : Option Addr) (tc : Nat) (z : Int), 1 ≤ z ∧ z ≤ 13 ∧ Hid ((tl.length : Int) + 1 = z) ∧ vv = .int .i64 z ∧ vt = .slice TB tl.length tc ∧ Hid (Within 13 tl) ∧ Hid (CS w g ca cl cc (A + 4 + 2 * tl.length) wr [Own 3 1 (.slice TB tl.length tc) tl.length (tl.map (.int .i64)), Box fb 61 #[.int .i64 vars, .slice B0 xss.length cap0], Rows Ty.int 43 (.slice B0 xss.length cap0) cs0 xss, Box w.heap.size 61 #[.int .i64 0, .slice none 0 0]])) (fun _ vv _ => 20 - (intOf vv).toNat)
  case atStart => exact ⟨[], _, _, 1, by decide, by decide, rfl, rfl, rfl, (fun x hx => by simp at hx), S4.out.mono (show _ ≤ A + 4 + 2 * ([] : List Int).length from by simp)⟩
  case round =>
    obtain ⟨tl, TB, tc, z, hz0', hz13, hlz, rfl, rfl, HW, HS⟩ := hrel
    have htl : tl.length ≤ 12 := by have := hlz.out; omega
    clear S4
    have d0 := HS.out.cell (i := 1) rfl (o := 0) rfl
    by_cases hlt : z ≤ vars
    · have hcur := Lib.hid HS.out.cur
      go_wp2_with fail
      refine (cur_one 4 _ g ca cl cc _ hcur.out (by omega) (by omega)).mono ?_
      rintro e w4 ⟨_, ⟨q, rfl⟩, rfl, hi4, hc4⟩
      have S2 := Lib.hid (HS.out.turn hi4 hc4)
      have hw1 : IntKind.i64.wrap (-z) = -z := IntWalk.i64_in _ (by omega)
      have hw2 : IntKind.i64.wrap (z + 1) = z + 1 := IntWalk.i64_in _ (by omega)
      clear HS hcur hi4 hc4 d0
      cases q
      · as_aux_lemma =>
          have S3 := S2.out.alloc_box #[.int .i64 (z)] 3
          have kB := S3.cell (i := 0) rfl (o := 0) rfl
          have d0 := S3.cell (i := 2) rfl (o := 0) rfl
          replace S3 := Lib.hid S3
          clear S2
          go_wp2_with (at_builtin; refine wpList_append_src rfl _ _ rfl Tryz.underlying43 hi0 hy0 hy1 hy2 rfl (by decide) _ _ _ rfl (S3.out.own (i := 1) rfl) _ 1 1 [.int .i64 (z)] rfl (Src.one kB) (by simp [Value.oneCell']) ?c3 ?c4 ?_)
          case c3 => unfold maxLen; omega
          case c4 => omega
          intro vY wY hownY hgY hatY
          have S4 := (S3.out.own_push (i := 1) rfl (bb _) hownY hgY (by simpa using hatY)).tail
          obtain ⟨aY, cY, rfl⟩ := own_slice hownY
          have hlen : tl.length + 1 = (tl ++ [z]).length := by simp
          have S5 : Hid (CS w g ca cl cc (A + 4 + 2 * (tl.length + 1)) wY [Own 3 1 (.slice aY (tl ++ [z]).length cY) (tl ++ [z]).length ((tl ++ [z]).map (.int .i64)), Box fb 61 #[.int .i64 vars, .slice B0 xss.length cap0], Rows Ty.int 43 (.slice B0 xss.length cap0) cs0 xss, Box w.heap.size 61 #[.int .i64 0, .slice none 0 0]]) := by
            unfold Hid; rw [← hlen, List.map_append]; exact S4.mono (by omega)
          have hW2 : Hid (Within 13 (tl ++ [z])) := HW.out.snoc (by omega) (by omega)
          clear S3 S4 kB hownY hgY hatY HW
          rw [hlen]
          rw [hlen] at S5
          have hlz2 : Hid (((tl ++ [z]).length : Int) + 1 = z + 1) := by unfold Hid; have := hlz.out; rw [← hlen]; omega
          clear hlz htl
          replace hlen := Lib.hid hlen
          generalize tl ++ [z] = tl2 at *
          go_wp2_with fail
          go_roundw
          case rel => exact ⟨tl2, aY, cY, z + 1, by omega, by omega, hlz2, rfl, rfl, hW2, S5⟩
          case measure => simp [intOf]; omega
      · as_aux_lemma =>
          have S3 := S2.out.alloc_box #[.int .i64 (-z)] 3
          have kB := S3.cell (i := 0) rfl (o := 0) rfl
          have d0 := S3.cell (i := 2) rfl (o := 0) rfl
          replace S3 := Lib.hid S3
          clear S2
          go_wp2_with (at_builtin; refine wpList_append_src rfl _ _ rfl Tryz.underlying43 hi0 hy0 hy1 hy2 rfl (by decide) _ _ _ rfl (S3.out.own (i := 1) rfl) _ 1 1 [.int .i64 (-z)] rfl (Src.one kB) (by simp [Value.oneCell']) ?c3 ?c4 ?_)
          case c3 => unfold maxLen; omega
          case c4 => omega
          intro vY wY hownY hgY hatY
          have S4 := (S3.out.own_push (i := 1) rfl (bb _) hownY hgY (by simpa using hatY)).tail
          obtain ⟨aY, cY, rfl⟩ := own_slice hownY
          have hlen : tl.length + 1 = (tl ++ [-z]).length := by simp
          have S5 : Hid (CS w g ca cl cc (A + 4 + 2 * (tl.length + 1)) wY [Own 3 1 (.slice aY (tl ++ [-z]).length cY) (tl ++ [-z]).length ((tl ++ [-z]).map (.int .i64)), Box fb 61 #[.int .i64 vars, .slice B0 xss.length cap0], Rows Ty.int 43 (.slice B0 xss.length cap0) cs0 xss, Box w.heap.size 61 #[.int .i64 0, .slice none 0 0]]) := by
            unfold Hid; rw [← hlen, List.map_append]; exact S4.mono (by omega)
          have hW2 : Hid (Within 13 (tl ++ [-z])) := HW.out.snoc (by omega) (by omega)
          clear S3 S4 kB hownY hgY hatY HW
          rw [hlen]
          rw [hlen] at S5
          have hlz2 : Hid (((tl ++ [-z]).length : Int) + 1 = z + 1) := by unfold Hid; have := hlz.out; rw [← hlen]; omega
          clear hlz htl
          replace hlen := Lib.hid hlen
          generalize tl ++ [-z] = tl2 at *
          go_wp2_with fail
          go_roundw
          case rel => exact ⟨tl2, aY, cY, z + 1, by omega, by omega, hlz2, rfl, rfl, hW2, S5⟩
          case measure => simp [intOf]; omega
    · have hto := HW.out
      have hl1000 : tl.length ≤ 1000 := by omega
      obtain ⟨F, hr, -, -⟩ := HS.out.rows_done (i := 2) rfl
      obtain ⟨G, hy, -, -⟩ := own_row (HS.out.own (i := 0) rfl) (HW.out.i64 (by decide))
      have hrn := Lib.hid (renameW_any vars _ xss tl TB tc F G _ (Ty.row_down hr) (Ty.row_down hy) hto hl1000)
      have d1 := HS.out.cell (i := 1) rfl (o := 1) rfl
      clear hr hy hto
      go_wp2_with fail
      refine hrn.out.mono ?_
      rintro e w4 ⟨va, B, cap, cs, ys, q, rfl, hva0, hva1, hyl, HC, T4⟩
      replace HC := Lib.hid HC.r
      have S5 := HS.out.seq T4
      have r0 := S5.cell (i := 2) rfl (o := 0) rfl
      have r1 := S5.cell (i := 2) rfl (o := 1) rfl
      have f0 := S5.frozen (i := 2) rfl 0
      have f1 := S5.frozen (i := 2) rfl 1
      have S6 := (S5.store (i := 2) rfl 0 (.int .i64 va)).store (i := 2) rfl 1 (.slice B ys.length cap)
      have S7 := S6.swap.tail
      have hcur := Lib.hid S7.cur
      replace S7 := Lib.hid S7
      clear HS S5 S6 T4 d0 d1 hrn HW hlz hl1000 HC0
      go_wp2_with fail
      clear r0 r1 f0 f1
      refine (cur_pick_at (lo := 0) (hi := 2) hcur.out (by omega) (by omega) (by omega) (by omega) (by omega)).mono ?_
      rintro e w5 ⟨_, ⟨x, hx0, hx1, rfl⟩, rfl, hi5, hc5⟩
      obtain ⟨m0, rfl⟩ := Int.eq_ofNat_of_zero_le hx0
      have hm2 : m0 ≤ 2 := by omega
      have S8 := Lib.hid ((S7.out.turn hi5 hc5).mono (show _ ≤ A + 100 + 100 * (2 - m0) by omega))
      clear S7 hcur hi5 hc5 hx0 hx1
      go_wp2_with fail
      go_loopw [6] (fun vv wr => ∃ (m : Nat) (B : Option Addr) (cap : Nat) (cs : List Value) (ys : List (List Int)), m ≤ 2 ∧ vv = .int .i64 m ∧ ys.length + m ≤ 62 ∧ Hid (SmallR 13 ys) ∧ Hid (CS w g ca cl cc (A + 100 + 100 * (2 - m)) wr [Rows Ty.int 43 (.slice B ys.length cap) cs ys, Box fb 61 #[.int .i64 va, .slice B ys.length cap], Rows Ty.int 43 (.slice B0 xss.length cap0) cs0 xss, Box w.heap.size 61 #[.int .i64 0, .slice none 0 0]])) (fun vv _ => (intOf vv).toNat)
      case atStart => exact ⟨m0, B, cap, cs, ys, hm2, rfl, by omega, HC, S8⟩
      case round =>
        clear S8 HC
        obtain ⟨m, B, cap, cs, ys, hm2, rfl, hyl, HC, HS⟩ := hrel
        have d0 := HS.out.cell (i := 1) rfl (o := 0) rfl
        go_upto_region 11 with fail
        go_cut [43] (fun s wx => ∃ b : Bool, s = .bool b ∧ Hid (b = true → 0 < m) ∧ wx = wr)
        case first =>
          by_cases hm : 0 < m
          · have e0 : decide ((0 : Int) < (m : Int)) = true := decide_eq_true (by omega)
            obtain ⟨q, hq⟩ : ∃ q, decide ((0 : Int) < va) = q := ⟨_, rfl⟩
            go_wp2_with fail
            all_goals
              go_meet
              exact ⟨_, rfl, fun _ => hm, rfl⟩
          · have e0 : decide ((0 : Int) < (m : Int)) = false := decide_eq_false (by omega)
            go_wp2_with fail
            go_meet
            exact ⟨false, rfl, (fun h => by cases h), rfl⟩
        case rest =>
        obtain ⟨b, rfl, hb, hww⟩ := hcut
        subst hww
        cases b
        · have l1 := HS.out.cell (i := 1) rfl (o := 1) rfl
          have r0 := HS.out.cell (i := 3) rfl (o := 0) rfl
          have r1 := HS.out.cell (i := 3) rfl (o := 1) rfl
          have f0 := HS.out.frozen (i := 3) rfl 0
          have f1 := HS.out.frozen (i := 3) rfl 1
          have SF := (HS.out.store (i := 3) rfl 0 (.int .i64 va)).store (i := 3) rfl 1 (.slice B ys.length cap)
          have j0 := SF.cell (i := 3) rfl (o := 0) rfl
          have j1 := SF.cell (i := 3) rfl (o := 1) rfl
          have hR := Lib.hid ((CS.front (qs := [_]) SF).mono (show _ ≤ A + 400 by omega))
          clear SF HS
          go_wp2_with fail
          exact bodyPost_ret (v := .agg #[.int .i64 va, .slice B ys.length cap]) (by simp [results, Tryz.results156, go_sem, j0, j1]) rfl ⟨va, B, cap, cs, ys, rfl, by omega, by omega, by omega, HC.out, hR.out⟩
        · have hm := hb.out rfl
          have hmw : IntKind.i64.wrap ((m : Int) - 1) = ((m - 1 : Nat) : Int) := by rw [IntWalk.i64_in _ (by omega)]; omega
          clear hb d0
          have l0 := HS.out.cell (i := 1) rfl (o := 0) rfl
          have l1 := HS.out.cell (i := 1) rfl (o := 1) rfl
          go_wp2_with fail
          refine wp_region_tail_lit (S := (fun w' => w'.cell? ⟨fb, 0, none⟩ = some (.int .i64 va) ∧ w'.cell? ⟨fb, 1, none⟩ = some (.slice B ys.length cap))) 7 [false, false, false, false, false, false, false, false, false, false] (by kernel_rfl) (by kernel_rfl) (by kernel_rfl) ?_ ?_
          · exact ⟨l0, l1⟩
          intro hSc
          (refine walkT_take (i := 0) (v := ?_) rfl (by kernel_rfl) (by decide) (by kernel_rfl) (by kernel_rfl) (fun _ _ _ h => h) (Or.inl ⟨by rfl, ?_⟩) (by assumption) ?_; rotate_left; (focus (intro w hSw; (try dsimp only at hSw); go_simp; (try with_reducible rfl); done)); (try simp only [put_rules]))
          (refine walkT_take (i := 1) (v := ?_) rfl (by kernel_rfl) (by decide) (by kernel_rfl) (by kernel_rfl) (fun _ _ _ h => h) (Or.inl ⟨by rfl, ?_⟩) (by assumption) ?_; rotate_left; (focus (intro w hSw; (try dsimp only at hSw); go_simp; (try with_reducible rfl); done)); (try simp only [put_rules]))
          (refine walkT_take (i := 2) (v := ?_) rfl (by kernel_rfl) (by decide) (by kernel_rfl) (by kernel_rfl) (fun _ _ _ h => h) (Or.inl ⟨by rfl, ?_⟩) (by assumption) ?_; rotate_left; (focus (intro w hSw; (try dsimp only at hSw); go_simp; (try with_reducible rfl); done)); (try simp only [put_rules]))
          (refine walkT_take (i := 3) (v := ?_) rfl (by kernel_rfl) (by decide) (by kernel_rfl) (by kernel_rfl) (fun _ _ _ h => h) (Or.inl ⟨by rfl, ?_⟩) (by assumption) ?_; rotate_left; (focus (intro w hSw; (try dsimp only at hSw); go_simp; (try with_reducible rfl); done)); (try simp only [put_rules]))
          (refine walkT_take (i := 4) (v := ?_) rfl (by kernel_rfl) (by decide) (by kernel_rfl) (by kernel_rfl) (fun _ _ _ h => h) (Or.inl ⟨by rfl, ?_⟩) (by assumption) ?_; rotate_left; (focus (intro w hSw; (try dsimp only at hSw); go_simp; (try with_reducible rfl); done)); (try simp only [put_rules]))
          (refine walkT_ready (rs := [5]) (by kernel_rfl) (by simp) (by decide) ?_; refine AllT.cons rfl (fun K hK => ?_) AllT.nil)
          go_simp
          go_at_call 91
          have S3 := HS.out.drew
          have hcall := Lib.hid (cur_clause va (by omega) _ g ca cl cc _ S3.cur (by omega))
          refine hcall.out.mono ?_
          rintro e w3 ⟨v, c, rfl, ho, hl, hW, hi3, hc3⟩
          have S4 := S3.comp (row_cs S3.cur hi3 hc3 ho)
          obtain ⟨B2, cap2, rfl⟩ := own_slice ho
          have S5 := Lib.hid (CS.own_to_row (ps := _) S4 (hW.i64 (by decide)))
          clear hcall S3 S4 HS l0 l1 hi3 hc3 ho
          go_wp2_with fail
          refine hK.out _ _ ⟨S5.out.cell (i := 2) rfl (o := 0) rfl, S5.out.cell (i := 2) rfl (o := 1) rfl⟩ (fun hS2 => ?_)
          clear hK hSc
          (try simp only [put_rules])
          (refine walkT_ready (rs := [6]) (by kernel_rfl) (by simp) (by decide) ?_; refine AllT.cons rfl (fun K hK => ?_) AllT.nil)
          go_simp
          have hrows := Lib.hid ((S5.out.rows (i := 1) rfl).alloc (.cells #[.slice B2 c.length cap2] 43))
          have kB : (w3.alloc (.cells #[.slice B2 c.length cap2] 43)).cell? ⟨w3.heap.size, 0, none⟩ = some (.slice B2 c.length cap2) := cell_of_row _ _ _ _ _ _ (heap_alloc_new w3 _)
          have S6 := Lib.hid (S5.out.alloc (.cells #[.slice B2 c.length cap2] 43))
          refine hK.out _ _ ⟨S6.out.cell (i := 2) rfl (o := 0) rfl, S6.out.cell (i := 2) rfl (o := 1) rfl⟩ (fun hS3 => ?_)
          clear hK hS2
          (try simp only [put_rules])
          (refine walkT_done (by kernel_rfl) ?_)
          simp only [List.drop_succ_cons, List.drop_zero]
          (refine wpList_append_src rfl _ _ rfl Tryz.underlying59 hi hz0 hz1 hz2 rfl (by decide) _ ys.length _ rfl hrows.out _ 1 1 [.slice B2 c.length cap2] rfl (Src.one kB) (by simp [Value.oneCell']) (by unfold maxLen; omega) (by omega) ?_; intro vY wY hownY hgY hatY)
          have S7 := S5.out.rows_push (bal (bb _) _) hownY hgY hatY
          obtain ⟨aY, cY, rfl⟩ := own_slice hownY
          have b1 := S7.cell (i := 1) rfl (o := 1) rfl
          have q1 := S7.frozen (i := 1) rfl 1
          have hlen : ys.length + 1 = (ys ++ [c]).length := by simp
          have S8 : Hid (CS w g ca cl cc (A + 100 + 100 * (2 - (m - 1))) (wY.setCell ⟨fb, 1, none⟩ (.slice aY (ys.length + 1) cY)) [Rows Ty.int 43 (.slice aY (ys ++ [c]).length cY) (cs ++ [.slice B2 c.length cap2]) (ys ++ [c]), Box fb 61 #[.int .i64 va, .slice aY (ys ++ [c]).length cY], Rows Ty.int 43 (.slice B0 xss.length cap0) cs0 xss, Box w.heap.size 61 #[.int .i64 0, .slice none 0 0]]) := by
            unfold Hid; rw [← hlen]
            have := (S7.store (i := 1) rfl 1 (.slice aY (ys.length + 1) cY)).mono (show _ ≤ A + 100 + 100 * (2 - (m - 1)) by omega)
            rw [hlen] at this ⊢
            exact this
          have HC2 : Hid (SmallR 13 (ys ++ [c])) := fun y hy => by
            rcases List.mem_append.1 hy with hy | hy
            · exact HC.out y hy
            · obtain rfl : y = c := by simpa using hy
              exact ⟨hW.i64 (by decide), by omega⟩
          clear S5 S6 S7 hrows hownY hgY hatY kB hW HC
          replace hlen := Lib.hid hlen
          have hyl2 : (ys ++ [c]).length + (m - 1) ≤ 62 := by rw [← hlen.out]; omega
          go_wp2_with fail
          go_roundw
          case rel => exact ⟨m - 1, aY, cY, cs ++ [.slice B2 c.length cap2], ys ++ [c], by omega, rfl, hyl2, HC2, S8⟩
          case measure => simp [intOf]; omega
end Go.Proofs.YtahbepajeplcmaaGreatDoor

/- Rows of rows that grow by several rows; rows of one number. -/
namespace Go.Proofs.YtahbepajeplcmaaGreatDoor
open Go.RowKit

/-- Rows that wait to be appended. -/
def Pend {α : Type} (T : Ty α) (us : List Value) (yss : List (List α)) : Asn where
  p w F := F.Nodup ∧ (Ty.slice T).all true w us yss F
  lt h := Ty.all_lt h.2
  keep h hk := ⟨h.1, Ty.all_keep h.2 hk⟩
section
variable {w0 w w' w1 : World} {g cl cc A : Nat} {ca : Option Addr} {ps : List Asn} {e : TypeId} {α : Type} {T : Ty α} {v v' u1 u2 : Value} {cs us : List Value} {xss yss : List (List α)} {ys1 ys2 : List α}
theorem CS.pend (h : CS w0 g ca cl cc A w (Row T u1 ys1 :: Row T u2 ys2 :: ps)) : CS w0 g ca cl cc A w (Pend T [u1, u2] [ys1, ys2] :: ps) := by
  obtain ⟨h0, h1, h2, F, ⟨F1, F2, rfl, hd, ⟨hr, hn⟩, ⟨F3, F4, rfl, hd', ⟨hr', hn'⟩, h5⟩⟩, h3⟩ := h
  refine ⟨h0, h1, h2, (F1 ++ F3) ++ F4, ⟨F1 ++ F3, F4, rfl, ?_, ⟨?_, Ty.all_append (cs := [u1]) (xs := [ys1]) (Ty.all_one ⟨u1, rfl, hr⟩) (Ty.all_one ⟨u2, rfl, hr'⟩)⟩, h5⟩, ?_⟩
  · intro b hm hm4
    rcases List.mem_append.1 hm with hm | hm
    · exact hd b hm (List.mem_append.2 (.inr hm4))
    · exact hd' b hm hm4
  · exact List.nodup_append.2 ⟨hn, hn', fun x hx y hy e => hd x hx (List.mem_append.2 (.inl (e ▸ hy)))⟩
  · intro b hm
    exact h3 b (by simpa [List.append_assoc] using hm)
theorem CS.rows_append (h : CS w0 g ca cl cc A w (Pend T us yss :: Rows T e v cs xss :: ps)) (hb : Below w.heap.size w w1) (ho : w'.ownsRow 0 e 1 v' (xss.length + yss.length) (cs ++ us)) (hg : w1.grownBy w' v.ownBlock)
    (hat : v'.ownBlock = v.ownBlock ∨ v'.ownBlock = some w1.heap.size) : CS w0 g ca cl cc A w' (Rows T e v' (cs ++ us) (xss ++ yss) :: ps) := by
  have hsz := h.chg.size
  obtain ⟨⟨A0, h0'⟩, hcur, h1, F, ⟨F1, F2, rfl, hd, ⟨hn, hr⟩, ⟨F3, F4, rfl, hd', ⟨G, rfl, hn', hall, hown⟩, h5⟩⟩, h3⟩ := h
  have hr1 := Ty.all_keep hr fun b hm => hb.block b (Ty.all_lt hr b hm)
  have hall1 := Ty.all_keep hall fun b hm => hb.block b (Ty.all_lt hall b hm)
  have h51 := sep_keep h5 fun b hm => hb.block b (sep_lt h5 b hm)
  have hkeep : ∀ b, b < w.heap.size → (∀ g, v.ownBlock = some g → b ≠ g) → w'.heap[b]? = w1.heap[b]? := fun b hlt hne => hg.block b (Nat.lt_of_lt_of_le hlt hb.size) (fun e => hne b e.symm rfl)
  have hr2 := Ty.all_keep hr1 fun b hm => hkeep b (Ty.all_lt hr b hm) fun g hg' e => hd b hm (by simp [hg', e])
  have hnG : ∀ b ∈ G, ∀ g, v.ownBlock = some g → b ≠ g := fun b hm g hg' e => by
    rw [List.nodup_append] at hn'
    exact hn'.2.2 g (by simp [hg']) b hm e.symm
  have hall2 := Ty.all_keep hall1 fun b hm => hkeep b (Ty.all_lt hall b hm) (hnG b hm)
  have h52 := sep_keep h51 fun b hm => hkeep b (sep_lt h5 b hm) fun g hg' e => hd' b (by simp [hg', e]) hm
  have hlv : ∀ b ∈ v'.ownBlock.toList, b ∈ v.ownBlock.toList ∨ b = w1.heap.size := fun b hm => by
    rcases hat with h | h
    · left; rwa [h] at hm
    · right; rw [h] at hm; simpa using hm
  have hs := hb.size
  have hold : ∀ k, k < w0.heap.size → w'.heap[k]? = w.heap[k]? := fun k hk => (hkeep k (by omega) fun g hg' e => by have := h3 g (by simp [hg']); omega).trans (hb.block k (by omega))
  have hchg : Chg [g] w0 w' := ⟨hg.os.trans (hb.os.trans h1.os), hg.tape.trans (hb.tape.trans h1.tape), hg.output.trans (hb.output.trans h1.output), by have := hg.size; omega, fun k hk hn => (hold k hk).trans (h1.block k hk hn)⟩
  refine ⟨⟨A0, h0'⟩, h0'.stay hcur hold, hchg, (v'.ownBlock.toList ++ (G ++ F1)) ++ F4, ⟨_, F4, rfl, ?_, ⟨G ++ F1, rfl, ?_, ?_, by simpa using ho⟩, h52⟩, ?_⟩
  · intro b hm hm4
    rcases List.mem_append.1 hm with hm | hm
    · rcases hlv b hm with h | h
      · exact hd' b (List.mem_append.2 (.inl h)) hm4
      · have := sep_lt h5 b hm4; omega
    · rcases List.mem_append.1 hm with hm | hm
      · exact hd' b (List.mem_append.2 (.inr hm)) hm4
      · exact hd b hm (List.mem_append.2 (.inr hm4))
  · refine List.nodup_append.2 ⟨by cases v'.ownBlock <;> simp, List.nodup_append.2 ⟨(List.nodup_append.1 hn').2.1, hn, fun x hx y hy e => hd y hy (by simp [← e, hx])⟩, fun x hx y hy e => ?_⟩
    subst e
    rcases hlv x hx with h | h
    · rcases List.mem_append.1 hy with hy | hy
      · exact (List.nodup_append.1 hn').2.2 x h x hy rfl
      · exact hd x hy (List.mem_append.2 (.inl (List.mem_append.2 (.inl h))))
    · rcases List.mem_append.1 hy with hy | hy
      · have := Ty.all_lt hall x hy; omega
      · have := Ty.all_lt hr x hy; omega
  · exact Ty.all_append hall2 hr2
  · intro b hm
    rcases List.mem_append.1 hm with hm | hm
    · rcases List.mem_append.1 hm with hm | hm
      · rcases hlv b hm with h | h
        · exact h3 b (by simp at h ⊢; simp [h])
        · omega
      · rcases List.mem_append.1 hm with hm | hm
        · exact h3 b (by simp [hm])
        · exact h3 b (by simp [hm])
    · exact h3 b (by simp [hm])
theorem CS.own_one (h : CS w0 g ca cl cc A w ps) (x : Value) (e : TypeId) : CS w0 g ca cl cc A (w.alloc (.cells #[x] e)) (Own e 1 (.slice (some ⟨w.heap.size, 0, none⟩) 1 1) 1 [x] :: ps) :=
  h.own_new (bal (bb _) _) ⟨by simp, .inr ⟨w.heap.size, 1, #[x], rfl, Nat.zero_le _, heap_alloc_new w _, Nat.le_refl _, by decide, by simp, by simp⟩⟩ (fun g hg => by
    have : w.heap.size = g := by simpa [Value.ownBlock] using hg
    omega)
end
theorem Src.two {w : World} {b : Nat} {x y : Value} (h : w.cell? ⟨b, 0, none⟩ = some x) (h2 : w.cell? ⟨b, 1, none⟩ = some y) : Src w (some ⟨b, 0, none⟩) 2 1 [x, y] := .inr ⟨_, rfl, rfl, fun j u hj => by
    match j, hj with
    | 0, hj => simp at hj; subst hj; rw [add_none]; exact h
    | 1, hj => simp at hj; subst hj; rw [add_none]; exact h2⟩
set_option maxHeartbeats 400000 in
theorem bs_five (a : Act) (w : World) (K : Act → World → Prop) (Q : Exit → Act → World → Prop) (p : String) (h : K (a.put (some 34) (.slice (some ⟨w.heap.size, 0, none⟩) 5 5)) (w.alloc (.cells #[.int .i64 (-1), .int .i64 13, .int .i64 12, .int .i64 0, .int .i64 1] 3))) :
    Oper.wp Tryz.prog {dst := some 34, op := Op.buildSlice 43 5 #[(0, .const (.int .i64 (-1))), (1, .const (.int .i64 13)), (2, .const (.int .i64 12)), (3, .const (.int .i64 0)), (4, .const (.int .i64 1))], type := 43, pos := p, after := #[], guard := none} a w K Q := by
  go_simp
  exact h
/-- The length of the row that lies in a block's second cell. -/
def lenAt1 (w : World) (b : Nat) : Nat := match w.cell? ⟨b, 1, none⟩ with | some (.slice _ n _) => n | _ => 0
theorem lenAt1_of {w : World} {b n c : Nat} {B : Option Addr} (h : w.cell? ⟨b, 1, none⟩ = some (.slice B n c)) : lenAt1 w b = n := by simp [lenAt1, h]
end Go.Proofs.YtahbepajeplcmaaGreatDoor

/- Contract: a drawn Cnf. -/
namespace Go.Proofs.YtahbepajeplcmaaGreatDoor
open Go.RowKit

set_option maxRecDepth 100000 in
set_option maxHeartbeats 16000000 in
theorem cur_cnf (A g : Nat) (ca : Option Addr) (cl cc : Nat) (w : World) (h : CurIs A g ca cl cc w) (hA : A ≤ 30000000) :
    Calls Tryz.prog 105 #[.pointer (some ⟨g, 0, none⟩)] w (CnfPost (A + 2000) g ca cl cc w) := by
  have hg := h.lt
  have S0 := Lib.hid ((CS.start h).alloc_box #[.int .i64 0, .slice none 0 0] 61)
  obtain ⟨i1, hi, hz0, hz1, hz2⟩ := info_parts infoRow
  clear h
  have hcur := Lib.hid S0.out.cur
  go_enter Tryz.func105, Tryz.ntmps105
  go_wp2_with fail
  refine (cur_one 4 A g ca cl cc _ hcur.out (by omega) (by omega)).mono ?_
  rintro e w1 ⟨_, ⟨q, rfl⟩, rfl, hi1, hc1⟩
  have S1 := Lib.hid (S0.out.turn hi1 hc1)
  clear S0 hcur hi1 hc1
  cases q
  case true =>
    have hh := Lib.hid (cur_hard _ g ca cl cc _ S1.out.cur (by omega))
    go_wp2_with fail
    refine hh.out.mono ?_
    rintro e w2 ⟨vars, B, cap, cs, ys, rfl, hv0, hv1, hyl, HC, T2⟩
    replace HC := Lib.hid HC
    have S2 := S1.out.comp T2
    have r0 := S2.cell (i := 1) rfl (o := 0) rfl
    have r1 := S2.cell (i := 1) rfl (o := 1) rfl
    have f0 := S2.frozen (i := 1) rfl 0
    have f1 := S2.frozen (i := 1) rfl 1
    have SF := (S2.store (i := 1) rfl 0 (.int .i64 vars)).store (i := 1) rfl 1 (.slice B ys.length cap)
    have j0 := SF.cell (i := 1) rfl (o := 0) rfl
    have j1 := SF.cell (i := 1) rfl (o := 1) rfl
    have hR := Lib.hid ((CS.front (qs := [_]) SF).mono (show _ ≤ A + 2000 by omega))
    clear SF S2 S1 T2 hh
    go_wp2_with fail
    exact bodyPost_ret (v := .agg #[.int .i64 vars, .slice B ys.length cap]) (by simp [results, Tryz.results105, go_sem, j0, j1]) rfl ⟨vars, B, cap, cs, ys, rfl, by omega, by omega, by omega, HC.out, hR.out⟩
  case false =>
    have hgl : g < w1.heap.size := S1.out.cur.lt
    have hcall := Lib.hid (cur_among (2) 5 w1.heap.size 0 5 5 _ g ca cl cc (w1.alloc (.cells #[.int .i64 2, .int .i64 3, .int .i64 3, .int .i64 4, .int .i64 5] 3)) (S1.out.cur.grow (bal (bb _) _)) (by omega) (by decide) (by decide) (ints_new rfl fun j hj => by
      match j, hj with
      | 0, _ => exact ⟨_, rfl, by decide, by decide⟩
      | 1, _ => exact ⟨_, rfl, by decide, by decide⟩
      | 2, _ => exact ⟨_, rfl, by decide, by decide⟩
      | 3, _ => exact ⟨_, rfl, by decide, by decide⟩
      | 4, _ => exact ⟨_, rfl, by decide, by decide⟩
      ) (by omega))
    go_wp2_with fail
    refine hcall.out.mono ?_
    rintro e w2 ⟨_, ⟨vars, hva0, hva1, rfl⟩, rfl, hi2, hc2⟩
    have S2 := (S1.out.alloc _).turn hi2 hc2
    have S3 := (S2.rows_made Ty.int 43).alloc_box #[.int .i64 vars, .slice (some ⟨w2.heap.size, 0, none⟩) 0 0] 61
    simp only [World.size_alloc] at S3
    obtain ⟨fb, hfb⟩ : ∃ fb, w2.heap.size + 1 = fb := ⟨_, rfl⟩
    rw [hfb] at S3
    have S4 : Hid (CS w g ca cl cc (A + 2 + 2) _ [Rows Ty.int 43 (.slice (some ⟨w2.heap.size, 0, none⟩) ([] : List (List Int)).length 0) [] ([] : List (List Int)), Box fb 61 #[.int .i64 vars, .slice (some ⟨w2.heap.size, 0, none⟩) ([] : List (List Int)).length 0], Box w.heap.size 61 #[.int .i64 0, .slice none 0 0]]) := S3.swap
    have hcur := Lib.hid S4.out.cur
    clear S1 S2 S3 hi2 hc2 hcall
    go_wp2_with fail
    refine (cur_pick_at (lo := 0) (hi := 9) hcur.out (by omega) (by omega) (by omega) (by omega) (by omega)).mono ?_
    rintro e w3 ⟨_, ⟨x, hx0, hx1, rfl⟩, rfl, hi3, hc3⟩
    obtain ⟨m0, rfl⟩ := Int.eq_ofNat_of_zero_le hx0
    have hm9 : m0 ≤ 9 := by omega
    have S5 := Lib.hid ((S4.out.turn hi3 hc3).mono (show _ ≤ A + 20 + 100 * (9 - m0) by omega))
    clear S4 hcur hi3 hc3 hx0 hx1
    go_wp2_with fail
    go_loopw [4] (fun vv wr => ∃ (m : Nat) (B : Option Addr) (cap : Nat) (cs : List Value) (ys : List (List Int)), m ≤ 9 ∧ vv = .int .i64 m ∧ ys.length + m ≤ 9 ∧ Hid (SmallR 13 ys) ∧ Hid (CS w g ca cl cc (A + 20 + 100 * (9 - m)) wr [Rows Ty.int 43 (.slice B ys.length cap) cs ys, Box fb 61 #[.int .i64 vars, .slice B ys.length cap], Box w.heap.size 61 #[.int .i64 0, .slice none 0 0]])) (fun vv _ => (intOf vv).toNat)
    case atStart => exact ⟨m0, _, _, [], [], hm9, rfl, by simpa using hm9, (fun c hc => by simp at hc), S5⟩
    case round =>
      clear S5
      obtain ⟨m, B, cap, cs, ys, hm2, rfl, hyl, HC, HS⟩ := hrel
      by_cases hm : 0 < m
      · have e0 : decide ((0 : Int) < (m : Int)) = true := decide_eq_true (by omega)
        have hmw : IntKind.i64.wrap ((m : Int) - 1) = ((m - 1 : Nat) : Int) := by rw [IntWalk.i64_in _ (by omega)]; omega
        as_aux_lemma =>
          have l0 := HS.out.cell (i := 1) rfl (o := 0) rfl
          have l1 := HS.out.cell (i := 1) rfl (o := 1) rfl
          go_wp2_with fail
          refine wp_region_tail_lit (S := (fun w' => w'.cell? ⟨fb, 0, none⟩ = some (.int .i64 vars) ∧ w'.cell? ⟨fb, 1, none⟩ = some (.slice B ys.length cap))) 7 [false, false, false, false, false, false, false, false, false, false] (by kernel_rfl) (by kernel_rfl) (by kernel_rfl) ?_ ?_
          · exact ⟨l0, l1⟩
          intro hSc
          (refine walkT_take (i := 0) (v := ?_) rfl (by kernel_rfl) (by decide) (by kernel_rfl) (by kernel_rfl) (fun _ _ _ h => h) (Or.inl ⟨by rfl, ?_⟩) (by assumption) ?_; rotate_left; (focus (intro w hSw; (try dsimp only at hSw); go_simp; (try with_reducible rfl); done)); (try simp only [put_rules]))
          (refine walkT_take (i := 1) (v := ?_) rfl (by kernel_rfl) (by decide) (by kernel_rfl) (by kernel_rfl) (fun _ _ _ h => h) (Or.inl ⟨by rfl, ?_⟩) (by assumption) ?_; rotate_left; (focus (intro w hSw; (try dsimp only at hSw); go_simp; (try with_reducible rfl); done)); (try simp only [put_rules]))
          (refine walkT_take (i := 2) (v := ?_) rfl (by kernel_rfl) (by decide) (by kernel_rfl) (by kernel_rfl) (fun _ _ _ h => h) (Or.inl ⟨by rfl, ?_⟩) (by assumption) ?_; rotate_left; (focus (intro w hSw; (try dsimp only at hSw); go_simp; (try with_reducible rfl); done)); (try simp only [put_rules]))
          (refine walkT_take (i := 3) (v := ?_) rfl (by kernel_rfl) (by decide) (by kernel_rfl) (by kernel_rfl) (fun _ _ _ h => h) (Or.inl ⟨by rfl, ?_⟩) (by assumption) ?_; rotate_left; (focus (intro w hSw; (try dsimp only at hSw); go_simp; (try with_reducible rfl); done)); (try simp only [put_rules]))
          (refine walkT_take (i := 4) (v := ?_) rfl (by kernel_rfl) (by decide) (by kernel_rfl) (by kernel_rfl) (fun _ _ _ h => h) (Or.inl ⟨by rfl, ?_⟩) (by assumption) ?_; rotate_left; (focus (intro w hSw; (try dsimp only at hSw); go_simp; (try with_reducible rfl); done)); (try simp only [put_rules]))
          (refine walkT_ready (rs := [5]) (by kernel_rfl) (by simp) (by decide) ?_; refine AllT.cons rfl (fun K hK => ?_) AllT.nil)
          go_simp
          go_at_call 91
          have S3 := HS.out.drew
          have hcall := Lib.hid (cur_clause vars (by omega) _ g ca cl cc _ S3.cur (by omega))
          refine hcall.out.mono ?_
          rintro e w3 ⟨v, c, rfl, ho, hl, hW, hi3, hc3⟩
          have S4 := S3.comp (row_cs S3.cur hi3 hc3 ho)
          obtain ⟨B2, cap2, rfl⟩ := own_slice ho
          have S5 := Lib.hid (CS.own_to_row (ps := _) S4 (hW.i64 (by decide)))
          clear hcall S3 S4 HS l0 l1 hi3 hc3 ho
          go_wp2_with fail
          refine hK.out _ _ ⟨S5.out.cell (i := 2) rfl (o := 0) rfl, S5.out.cell (i := 2) rfl (o := 1) rfl⟩ (fun hS2 => ?_)
          clear hK hSc
          (try simp only [put_rules])
          (refine walkT_ready (rs := [6]) (by kernel_rfl) (by simp) (by decide) ?_; refine AllT.cons rfl (fun K hK => ?_) AllT.nil)
          go_simp
          have hrows := Lib.hid ((S5.out.rows (i := 1) rfl).alloc (.cells #[.slice B2 c.length cap2] 43))
          have kB : (w3.alloc (.cells #[.slice B2 c.length cap2] 43)).cell? ⟨w3.heap.size, 0, none⟩ = some (.slice B2 c.length cap2) := cell_of_row _ _ _ _ _ _ (heap_alloc_new w3 _)
          have S6 := Lib.hid (S5.out.alloc (.cells #[.slice B2 c.length cap2] 43))
          refine hK.out _ _ ⟨S6.out.cell (i := 2) rfl (o := 0) rfl, S6.out.cell (i := 2) rfl (o := 1) rfl⟩ (fun hS3 => ?_)
          clear hK hS2
          (try simp only [put_rules])
          (refine walkT_done (by kernel_rfl) ?_)
          simp only [List.drop_succ_cons, List.drop_zero]
          (refine wpList_append_src rfl _ _ rfl Tryz.underlying59 hi hz0 hz1 hz2 rfl (by decide) _ ys.length _ rfl hrows.out _ 1 1 [.slice B2 c.length cap2] rfl (Src.one kB) (by simp [Value.oneCell']) (by unfold maxLen; omega) (by omega) ?_; intro vY wY hownY hgY hatY)
          have S7 := S5.out.rows_push (bal (bb _) _) hownY hgY hatY
          obtain ⟨aY, cY, rfl⟩ := own_slice hownY
          have b1 := S7.cell (i := 1) rfl (o := 1) rfl
          have q1 := S7.frozen (i := 1) rfl 1
          have hlen : ys.length + 1 = (ys ++ [c]).length := by simp
          have S8 : Hid (CS w g ca cl cc (A + 20 + 100 * (9 - (m - 1))) (wY.setCell ⟨fb, 1, none⟩ (.slice aY (ys.length + 1) cY)) [Rows Ty.int 43 (.slice aY (ys ++ [c]).length cY) (cs ++ [.slice B2 c.length cap2]) (ys ++ [c]), Box fb 61 #[.int .i64 vars, .slice aY (ys ++ [c]).length cY], Box w.heap.size 61 #[.int .i64 0, .slice none 0 0]]) := by
            unfold Hid; rw [← hlen]
            have := (S7.store (i := 1) rfl 1 (.slice aY (ys.length + 1) cY)).mono (show _ ≤ A + 20 + 100 * (9 - (m - 1)) by omega)
            rw [hlen] at this ⊢
            exact this
          have HC2 : Hid (SmallR 13 (ys ++ [c])) := fun y hy => by
            rcases List.mem_append.1 hy with hy | hy
            · exact HC.out y hy
            · obtain rfl : y = c := by simpa using hy
              exact ⟨hW.i64 (by decide), by omega⟩
          clear S5 S6 S7 hrows hownY hgY hatY kB hW HC
          replace hlen := Lib.hid hlen
          have hyl2 : (ys ++ [c]).length + (m - 1) ≤ 9 := by rw [← hlen.out]; omega
          go_wp2_with fail
          go_roundw
          case rel => exact ⟨m - 1, aY, cY, cs ++ [.slice B2 c.length cap2], ys ++ [c], by omega, rfl, hyl2, HC2, S8⟩
          case measure => simp [intOf]; omega
      · have e0 : decide ((0 : Int) < (m : Int)) = false := decide_eq_false (by omega)
        have S4 := Lib.hid (HS.out.mono (show _ ≤ A + 1000 by omega))
        have hcur := Lib.hid S4.out.cur
        clear HS
        go_wp2_with fail
        refine (cur_pick_at (lo := 0) (hi := 39) hcur.out (by omega) (by omega) (by omega) (by omega) (by omega)).mono ?_
        rintro e w5 ⟨_, ⟨x, hx0, hx1, rfl⟩, rfl, hi5, hc5⟩
        have S5 := Lib.hid (S4.out.turn hi5 hc5)
        clear S4 hcur hi5 hc5 e0
        have hx5 : x = 0 ∨ x = 1 ∨ x = 2 ∨ x = 3 ∨ 3 < x := by omega
        rcases hx5 with rfl | rfl | rfl | rfl | hx5
        · as_aux_lemma =>
          have hgl : g < w5.heap.size := S5.out.cur.lt
          have hcall := Lib.hid (cur_among (-1) 13 w5.heap.size 0 5 5 _ g ca cl cc (w5.alloc (.cells #[.int .i64 (-1), .int .i64 13, .int .i64 12, .int .i64 0, .int .i64 1] 3)) (S5.out.cur.grow (bal (bb _) _)) (by omega) (by decide) (by decide) (ints_new rfl fun j hj => by
            match j, hj with
            | 0, _ => exact ⟨_, rfl, by decide, by decide⟩
            | 1, _ => exact ⟨_, rfl, by decide, by decide⟩
            | 2, _ => exact ⟨_, rfl, by decide, by decide⟩
            | 3, _ => exact ⟨_, rfl, by decide, by decide⟩
            | 4, _ => exact ⟨_, rfl, by decide, by decide⟩
            ) (by omega))
          go_upto_region 10 with fail
          (first | go_values | go_skip | go_guarded | go_step | go_upon)
          (first | go_values | go_skip | go_guarded | go_step | go_upon)
          (first | go_values | go_skip | go_guarded | go_step | go_upon)
          (first | go_values | go_skip | go_guarded | go_step | go_upon)
          (first | go_values | go_skip | go_guarded | go_step | go_upon)
          refine bs_five _ _ _ _ _ ?_
          simp only [put_rules]
          go_wp2_with fail
          refine hcall.out.mono ?_
          rintro e w6 ⟨_, ⟨va, hva2, hva3, rfl⟩, rfl, hi6, hc6⟩
          have S6 := (S5.out.alloc _).turn hi6 hc6
          have q0 := S6.frozen (i := 1) rfl 0
          have d0 := S6.cell (i := 1) rfl (o := 0) rfl
          have S7 : Hid (CS w g ca cl cc (A + 1000 + 2 + 2) _ [Rows Ty.int 43 (.slice B ys.length cap) cs ys, Box fb 61 #[.int .i64 va, .slice B ys.length cap], Box w.heap.size 61 #[.int .i64 0, .slice none 0 0]]) := S6.store (i := 1) rfl 0 (.int .i64 va)
          clear S5 S6 hi6 hc6 hcall
          have l0 := S7.out.cell (i := 1) rfl (o := 0) rfl
          have l1 := S7.out.cell (i := 1) rfl (o := 1) rfl
          have r0 := S7.out.cell (i := 2) rfl (o := 0) rfl
          have r1 := S7.out.cell (i := 2) rfl (o := 1) rfl
          have f0 := S7.out.frozen (i := 2) rfl 0
          have f1 := S7.out.frozen (i := 2) rfl 1
          have SF := (S7.out.store (i := 2) rfl 0 (.int .i64 va)).store (i := 2) rfl 1 (.slice B ys.length cap)
          have j0 := SF.cell (i := 2) rfl (o := 0) rfl
          have j1 := SF.cell (i := 2) rfl (o := 1) rfl
          have hR := Lib.hid ((CS.front (qs := [_]) SF).mono (show _ ≤ A + 2000 by omega))
          clear SF S7
          go_wp2_with fail
          exact bodyPost_ret (v := .agg #[.int .i64 va, .slice B ys.length cap]) (by simp [results, Tryz.results105, go_sem, j0, j1]) rfl ⟨va, B, cap, cs, ys, rfl, by omega, by omega, by omega, HC.out, hR.out⟩
        · as_aux_lemma =>
          have HS := S5
          clear S5
          have l0 := HS.out.cell (i := 1) rfl (o := 0) rfl
          have l1 := HS.out.cell (i := 1) rfl (o := 1) rfl
          go_wp2_with fail
          refine wp_region_tail_lit (S := (fun w' => w'.cell? ⟨fb, 0, none⟩ = some (.int .i64 vars) ∧ w'.cell? ⟨fb, 1, none⟩ = some (.slice B ys.length cap))) 7 [false, false, false, false, false, false, false, false, false, false] (by kernel_rfl) (by kernel_rfl) (by kernel_rfl) ?_ ?_
          · exact ⟨l0, l1⟩
          intro hSc
          (refine walkT_take (i := 0) (v := ?_) rfl (by kernel_rfl) (by decide) (by kernel_rfl) (by kernel_rfl) (fun _ _ _ h => h) (Or.inl ⟨by rfl, ?_⟩) (by assumption) ?_; rotate_left; (focus (intro w hSw; (try dsimp only at hSw); go_simp; (try with_reducible rfl); done)); (try simp only [put_rules]))
          (refine walkT_take (i := 1) (v := ?_) rfl (by kernel_rfl) (by decide) (by kernel_rfl) (by kernel_rfl) (fun _ _ _ h => h) (Or.inl ⟨by rfl, ?_⟩) (by assumption) ?_; rotate_left; (focus (intro w hSw; (try dsimp only at hSw); go_simp; (try with_reducible rfl); done)); (try simp only [put_rules]))
          (refine walkT_take (i := 2) (v := ?_) rfl (by kernel_rfl) (by decide) (by kernel_rfl) (by kernel_rfl) (fun _ _ _ h => h) (Or.inl ⟨by rfl, ?_⟩) (by assumption) ?_; rotate_left; (focus (intro w hSw; (try dsimp only at hSw); go_simp; (try with_reducible rfl); done)); (try simp only [put_rules]))
          (refine walkT_take (i := 3) (v := ?_) rfl (by kernel_rfl) (by decide) (by kernel_rfl) (by kernel_rfl) (fun _ _ _ h => h) (Or.inl ⟨by rfl, ?_⟩) (by assumption) ?_; rotate_left; (focus (intro w hSw; (try dsimp only at hSw); go_simp; (try with_reducible rfl); done)); (try simp only [put_rules]))
          (refine walkT_take (i := 4) (v := ?_) rfl (by kernel_rfl) (by decide) (by kernel_rfl) (by kernel_rfl) (fun _ _ _ h => h) (Or.inl ⟨by rfl, ?_⟩) (by assumption) ?_; rotate_left; (focus (intro w hSw; (try dsimp only at hSw); go_simp; (try with_reducible rfl); done)); (try simp only [put_rules]))
          (refine walkT_ready (rs := [5]) (by kernel_rfl) (by simp) (by decide) ?_; refine AllT.cons rfl (fun K hK => ?_) AllT.nil)
          go_simp
          go_at_call 74
          have S3 := HS.out.drew
          have hcall := Lib.hid (cur_anyClause vars (by omega) _ g ca cl cc _ S3.cur (by omega))
          refine hcall.out.mono ?_
          rintro e w3 ⟨v, c, rfl, ho, hl, hW, hi3, hc3⟩
          have S4 := S3.comp (row_cs S3.cur hi3 hc3 ho)
          obtain ⟨B2, cap2, rfl⟩ := own_slice ho
          have S5 := Lib.hid (CS.own_to_row (ps := _) S4 hW)
          clear hcall S3 S4 HS l0 l1 hi3 hc3 ho
          go_wp2_with fail
          refine hK.out _ _ ⟨S5.out.cell (i := 2) rfl (o := 0) rfl, S5.out.cell (i := 2) rfl (o := 1) rfl⟩ (fun hS2 => ?_)
          clear hK hSc
          (try simp only [put_rules])
          (refine walkT_ready (rs := [6]) (by kernel_rfl) (by simp) (by decide) ?_; refine AllT.cons rfl (fun K hK => ?_) AllT.nil)
          go_simp
          have hrows := Lib.hid ((S5.out.rows (i := 1) rfl).alloc (.cells #[.slice B2 c.length cap2] 43))
          have kB : (w3.alloc (.cells #[.slice B2 c.length cap2] 43)).cell? ⟨w3.heap.size, 0, none⟩ = some (.slice B2 c.length cap2) := cell_of_row _ _ _ _ _ _ (heap_alloc_new w3 _)
          have S6 := Lib.hid (S5.out.alloc (.cells #[.slice B2 c.length cap2] 43))
          refine hK.out _ _ ⟨S6.out.cell (i := 2) rfl (o := 0) rfl, S6.out.cell (i := 2) rfl (o := 1) rfl⟩ (fun hS3 => ?_)
          clear hK hS2
          (try simp only [put_rules])
          (refine walkT_done (by kernel_rfl) ?_)
          simp only [List.drop_succ_cons, List.drop_zero]
          (refine wpList_append_src rfl _ _ rfl Tryz.underlying59 hi hz0 hz1 hz2 rfl (by decide) _ ys.length _ rfl hrows.out _ 1 1 [.slice B2 c.length cap2] rfl (Src.one kB) (by simp [Value.oneCell']) (by unfold maxLen; omega) (by omega) ?_; intro vY wY hownY hgY hatY)
          have S7 := S5.out.rows_push (bal (bb _) _) hownY hgY hatY
          obtain ⟨aY, cY, rfl⟩ := own_slice hownY
          have b1 := S7.cell (i := 1) rfl (o := 1) rfl
          have q1 := S7.frozen (i := 1) rfl 1
          have hlen : ys.length + 1 = (ys ++ [c]).length := by simp
          have S8 : Hid (CS w g ca cl cc (A + 1500) (wY.setCell ⟨fb, 1, none⟩ (.slice aY (ys.length + 1) cY)) [Rows Ty.int 43 (.slice aY (ys ++ [c]).length cY) (cs ++ [.slice B2 c.length cap2]) (ys ++ [c]), Box fb 61 #[.int .i64 vars, .slice aY (ys ++ [c]).length cY], Box w.heap.size 61 #[.int .i64 0, .slice none 0 0]]) := by
            unfold Hid; rw [← hlen]
            have := (S7.store (i := 1) rfl 1 (.slice aY (ys.length + 1) cY)).mono (show _ ≤ A + 1500 by omega)
            rw [hlen] at this ⊢
            exact this
          have HC2 : Hid (SmallR 13 (ys ++ [c])) := fun y hy => by
            rcases List.mem_append.1 hy with hy | hy
            · exact HC.out y hy
            · obtain rfl : y = c := by simpa using hy
              exact ⟨hW, by omega⟩
          clear S5 S6 S7 hrows hownY hgY hatY kB hW HC
          replace hlen := Lib.hid hlen
          rw [hlen.out]
          rw [hlen.out] at S8
          generalize ys ++ [c] = zs at *
          have hzl : zs.length ≤ 62 := by rw [← hlen.out]; omega
          have l0 := S8.out.cell (i := 1) rfl (o := 0) rfl
          have l1 := S8.out.cell (i := 1) rfl (o := 1) rfl
          have r0 := S8.out.cell (i := 2) rfl (o := 0) rfl
          have r1 := S8.out.cell (i := 2) rfl (o := 1) rfl
          have f0 := S8.out.frozen (i := 2) rfl 0
          have f1 := S8.out.frozen (i := 2) rfl 1
          have SF := (S8.out.store (i := 2) rfl 0 (.int .i64 vars)).store (i := 2) rfl 1 (.slice aY zs.length cY)
          have j0 := SF.cell (i := 2) rfl (o := 0) rfl
          have j1 := SF.cell (i := 2) rfl (o := 1) rfl
          have hR := Lib.hid ((CS.front (qs := [_]) SF).mono (show _ ≤ A + 2000 by omega))
          clear SF S8
          go_wp2_with fail
          exact bodyPost_ret (v := .agg #[.int .i64 vars, .slice aY zs.length cY]) (by simp [results, Tryz.results105, go_sem, j0, j1]) rfl ⟨vars, aY, cY, _, zs, rfl, by omega, by omega, by omega, HC2.out, hR.out⟩
        · as_aux_lemma =>
          go_wp2_with fail
          go_loopw [] (fun wr => ∃ (B : Option Addr) (cap : Nat) (cs : List Value) (ys : List (List Int)), ys.length ≤ 61 ∧ Hid (SmallR 13 ys) ∧ Hid (CS w g ca cl cc (A + 1010 + 4 * ys.length) wr [Rows Ty.int 43 (.slice B ys.length cap) cs ys, Box fb 61 #[.int .i64 vars, .slice B ys.length cap], Box w.heap.size 61 #[.int .i64 0, .slice none 0 0]])) (fun wr => 70 - lenAt1 wr fb)
          case atStart => exact ⟨B, cap, cs, ys, by omega, HC, S5.out.mono (by omega)⟩
          case round =>
            clear S5 HC hyl
            obtain ⟨B, cap, cs, ys, hyl, HC, HS⟩ := hrel
            have l1 := HS.out.cell (i := 1) rfl (o := 1) rfl
            have hm1 : Hid (lenAt1 wr fb = ys.length) := lenAt1_of l1
            go_wp2_with fail
            refine wp_region_held_lit (S := (fun w' => w'.cell? ⟨fb, 1, none⟩ = some (.slice B ys.length cap))) 7 [false, false, false, false, false, false, false] (by kernel_rfl) (by kernel_rfl) (by kernel_rfl) ?_ ?_
            · exact l1
            intro hSc
            (refine wpAnyH_take (i := 0) (v := ?_) rfl (by kernel_rfl) (by kernel_rfl) (by kernel_rfl) (fun _ _ _ h => h) (Or.inl ⟨by rfl, ?_⟩) (by assumption) ?_; rotate_left; (focus (intro w hSw; (try dsimp only at hSw); go_simp; (try with_reducible rfl); done)); (try simp only [put_rules]))
            (refine wpAnyH_take (i := 1) (v := ?_) rfl (by kernel_rfl) (by kernel_rfl) (by kernel_rfl) (fun _ _ _ h => h) (Or.inl ⟨by rfl, ?_⟩) (by assumption) ?_; rotate_left; (focus (intro w hSw; (try dsimp only at hSw); go_simp; (try with_reducible rfl); done)); (try simp only [put_rules]))
            (refine wpAnyH_take (i := 2) (v := ?_) rfl (by kernel_rfl) (by kernel_rfl) (by kernel_rfl) (fun _ _ _ h => h) (Or.inl ⟨by rfl, ?_⟩) (by assumption) ?_; rotate_left; (focus (intro w hSw; (try dsimp only at hSw); go_simp; (try with_reducible rfl); done)); (try simp only [put_rules]))
            (refine wpAnyH_take (i := 3) (v := ?_) rfl (by kernel_rfl) (by kernel_rfl) (by kernel_rfl) (fun _ _ _ h => h) (Or.inl ⟨by rfl, ?_⟩) (by assumption) ?_; rotate_left; (focus (intro w hSw; (try dsimp only at hSw); go_simp; (try with_reducible rfl); done)); (try simp only [put_rules]))
            (refine wpAnyH_ready (rs := [4]) (by kernel_rfl) (by simp) ?_; refine AllReadyH.cons rfl (fun K hK => ?_) AllReadyH.nil)
            go_simp
            go_at_call 124
            have S3 := HS.out.drew
            have hcall := Lib.hid (cur_pick_at (lo := 0) (hi := 1) (n := 2) S3.cur (by omega) (by omega) (by omega) (by omega) (by omega))
            refine hcall.out.mono ?_
            rintro e w3 ⟨_, ⟨x, hx0, hx1, rfl⟩, rfl, hi3, hc3⟩
            have S4 := Lib.hid (S3.turn hi3 hc3)
            clear hcall S3 HS hi3 hc3
            have hxw : IntKind.i64.wrap (60 + x) = 60 + x := IntWalk.i64_in _ (by omega)
            have m1 := S4.out.cell (i := 1) rfl (o := 1) rfl
            go_wp2_with fail
            refine hK.out _ _ m1 (fun hS2 => ?_)
            clear l1
            clear hK hSc
            (try simp only [put_rules])
            (refine wpAnyH_take (i := 5) (v := ?_) rfl (by kernel_rfl) (by kernel_rfl) (by kernel_rfl) (fun _ _ _ h => h) (Or.inl ⟨by rfl, ?_⟩) (by assumption) ?_; rotate_left; (focus (intro w hSw; (try dsimp only at hSw); go_simp; (try with_reducible rfl); done)); (try simp only [put_rules]))
            by_cases hlt : (ys.length : Int) < 60 + x
            · have d0 : decide ((ys.length : Int) < 60 + x) = true := decide_eq_true hlt
              (refine wpAnyH_take (i := 6) (v := ?_) rfl (by kernel_rfl) (by kernel_rfl) (by kernel_rfl) (fun _ _ _ h => h) (Or.inl ⟨by rfl, ?_⟩) (by assumption) ?_; rotate_left; (focus (intro w hSw; (try dsimp only at hSw); go_simp; (try with_reducible rfl); done)); (try simp only [put_rules]))
              (refine wpAnyH_done (by kernel_rfl) ?_ _)
              have hp1 : ∀ x ∈ ([1] : List Int), I64 x := fun x hx => by
                obtain rfl : x = 1 := by simpa using hx
                unfold I64; omega
              have S5 := Lib.hid (CS.own_to_row (c := [1]) (S4.out.own_one (.int .i64 1) 3) hp1)
              obtain ⟨w4, hw4⟩ : ∃ w4, w3.alloc (.cells #[.int .i64 1] 3) = w4 := ⟨_, rfl⟩
              have hrows := (S5.out.rows (i := 1) rfl).alloc (.cells #[.slice (some ⟨w3.heap.size, 0, none⟩) 1 1] 43)
              have kB : ((w3.alloc (.cells #[.int .i64 1] 3)).alloc (.cells #[.slice (some ⟨w3.heap.size, 0, none⟩) 1 1] 43)).cell? ⟨w3.heap.size + 1, 0, none⟩ = some (.slice (some ⟨w3.heap.size, 0, none⟩) 1 1) := by
                have := cell_of_row _ _ 0 _ _ _ (heap_alloc_new (w3.alloc (.cells #[.int .i64 1] 3)) (.cells #[.slice (some ⟨w3.heap.size, 0, none⟩) 1 1] 43))
                rw [World.size_alloc] at this
                exact this
              replace hrows := Lib.hid hrows
              clear S4 hp1 hw4 w4
              go_wp2_with (at_builtin; refine wpList_append_src rfl _ _ rfl Tryz.underlying59 hi hz0 hz1 hz2 rfl (by decide) _ ys.length _ rfl hrows.out _ 1 1 [.slice (some ⟨w3.heap.size, 0, none⟩) 1 1] rfl (Src.one kB) (by simp [Value.oneCell']) ?c3 ?c4 ?_)
              case c3 => unfold maxLen; omega
              case c4 => omega
              intro vY wY hownY hgY hatY
              have S6 := S5.out.rows_push (bal (bb _) _) hownY hgY (by simpa using hatY)
              obtain ⟨aY, cY, rfl⟩ := own_slice hownY
              have b1 := S6.cell (i := 1) rfl (o := 1) rfl
              have q1 := S6.frozen (i := 1) rfl 1
              have hlen : ys.length + 1 = (ys ++ [[1]]).length := by simp
              have S8 : Hid (CS w g ca cl cc (A + 1010 + 4 * (ys.length + 1)) (wY.setCell ⟨fb, 1, none⟩ (.slice aY (ys.length + 1) cY)) [Rows Ty.int 43 (.slice aY (ys ++ [[1]]).length cY) (cs ++ [.slice (some ⟨w3.heap.size, 0, none⟩) 1 1]) (ys ++ [[1]]), Box fb 61 #[.int .i64 vars, .slice aY (ys ++ [[1]]).length cY], Box w.heap.size 61 #[.int .i64 0, .slice none 0 0]]) := by
                unfold Hid; rw [← hlen]
                have := (S6.store (i := 1) rfl 1 (.slice aY (ys.length + 1) cY)).mono (show _ ≤ A + 1010 + 4 * (ys.length + 1) by omega)
                rw [hlen] at this ⊢
                exact this
              have HC2 : Hid (SmallR 13 (ys ++ [[1]])) := fun y hy => by
                rcases List.mem_append.1 hy with hy | hy
                · exact HC.out y hy
                · obtain rfl : y = [1] := by simpa using hy
                  exact ⟨fun x hx => (by obtain rfl : x = 1 := by simpa using hx
                                         unfold I64; omega), by simp⟩
              have hm2 : Hid (lenAt1 (wY.setCell ⟨fb, 1, none⟩ (.slice aY (ys.length + 1) cY)) fb = ys.length + 1) := by
                have := lenAt1_of (S8.out.cell (i := 1) rfl (o := 1) rfl)
                unfold Hid; rw [this, hlen]
              clear S5 S6 hrows hownY hgY hatY kB HC
              rw [hlen] at S8
              replace hlen := Lib.hid hlen
              go_wp2_with fail
              go_roundw
              case rel => exact ⟨aY, cY, cs ++ [.slice (some ⟨w3.heap.size, 0, none⟩) 1 1], ys ++ [[1]], by rw [← hlen.out]; omega, HC2, by rw [hlen.out]; exact S8⟩
              case measure => rw [hm1.out, hm2.out]; omega
            · have d0 : decide ((ys.length : Int) < 60 + x) = false := decide_eq_false hlt
              (refine wpAnyH_take (i := 6) (v := ?_) rfl (by kernel_rfl) (by kernel_rfl) (by kernel_rfl) (fun _ _ _ h => h) (Or.inl ⟨by rfl, ?_⟩) (by assumption) ?_; rotate_left; (focus (intro w hSw; (try dsimp only at hSw); go_simp; (try with_reducible rfl); done)); (try simp only [put_rules]))
              (refine wpAnyH_done (by kernel_rfl) ?_ _)
              have l0 := S4.out.cell (i := 1) rfl (o := 0) rfl
              have l1 := S4.out.cell (i := 1) rfl (o := 1) rfl
              have r0 := S4.out.cell (i := 2) rfl (o := 0) rfl
              have r1 := S4.out.cell (i := 2) rfl (o := 1) rfl
              have f0 := S4.out.frozen (i := 2) rfl 0
              have f1 := S4.out.frozen (i := 2) rfl 1
              have SF := (S4.out.store (i := 2) rfl 0 (.int .i64 vars)).store (i := 2) rfl 1 (.slice B ys.length cap)
              have j0 := SF.cell (i := 2) rfl (o := 0) rfl
              have j1 := SF.cell (i := 2) rfl (o := 1) rfl
              have hR := Lib.hid ((CS.front (qs := [_]) SF).mono (show _ ≤ A + 2000 by omega))
              clear SF S4
              go_wp2_with fail
              exact bodyPost_ret (v := .agg #[.int .i64 vars, .slice B ys.length cap]) (by simp [results, Tryz.results105, go_sem, j0, j1]) rfl ⟨vars, B, cap, cs, ys, rfl, by omega, by omega, by omega, HC.out, hR.out⟩
        · as_aux_lemma =>
          have HS := S5
          clear S5
          have l0 := HS.out.cell (i := 1) rfl (o := 0) rfl
          have l1 := HS.out.cell (i := 1) rfl (o := 1) rfl
          go_wp2_with fail
          refine wp_region_tail_lit (S := (fun w' => w'.cell? ⟨fb, 0, none⟩ = some (.int .i64 vars) ∧ w'.cell? ⟨fb, 1, none⟩ = some (.slice B ys.length cap))) 8 [false, false, false, false, false, false, false, false, false, false, false] (by kernel_rfl) (by kernel_rfl) (by kernel_rfl) ?_ ?_
          · exact ⟨l0, l1⟩
          intro hSc
          (refine walkT_take (i := 0) (v := ?_) rfl (by kernel_rfl) (by decide) (by kernel_rfl) (by kernel_rfl) (fun _ _ _ h => h) (Or.inl ⟨by rfl, ?_⟩) (by assumption) ?_; rotate_left; (focus (intro w hSw; (try dsimp only at hSw); go_simp; (try with_reducible rfl); done)); (try simp only [put_rules]))
          (refine walkT_take (i := 1) (v := ?_) rfl (by kernel_rfl) (by decide) (by kernel_rfl) (by kernel_rfl) (fun _ _ _ h => h) (Or.inl ⟨by rfl, ?_⟩) (by assumption) ?_; rotate_left; (focus (intro w hSw; (try dsimp only at hSw); go_simp; (try with_reducible rfl); done)); (try simp only [put_rules]))
          (refine walkT_take (i := 2) (v := ?_) rfl (by kernel_rfl) (by decide) (by kernel_rfl) (by kernel_rfl) (fun _ _ _ h => h) (Or.inl ⟨by rfl, ?_⟩) (by assumption) ?_; rotate_left; (focus (intro w hSw; (try dsimp only at hSw); go_simp; (try with_reducible rfl); done)); (try simp only [put_rules]))
          (refine walkT_take (i := 3) (v := ?_) rfl (by kernel_rfl) (by decide) (by kernel_rfl) (by kernel_rfl) (fun _ _ _ h => h) (Or.inl ⟨by rfl, ?_⟩) (by assumption) ?_; rotate_left; (focus (intro w hSw; (try dsimp only at hSw); go_simp; (try with_reducible rfl); done)); (try simp only [put_rules]))
          (refine walkT_take (i := 4) (v := ?_) rfl (by kernel_rfl) (by decide) (by kernel_rfl) (by kernel_rfl) (fun _ _ _ h => h) (Or.inl ⟨by rfl, ?_⟩) (by assumption) ?_; rotate_left; (focus (intro w hSw; (try dsimp only at hSw); go_simp; (try with_reducible rfl); done)); (try simp only [put_rules]))
          (refine walkT_ready (rs := [5, 6]) (by kernel_rfl) (by simp) (by decide) ?_; refine AllT.cons rfl (fun K hK => ?_) (AllT.cons rfl (fun K hK => ?_) AllT.nil))
          · as_aux_lemma =>
              go_simp
              go_at_call 91
              have S3 := HS.out.drew
              have hcall := Lib.hid (cur_clause vars (by omega) _ g ca cl cc _ S3.cur (by omega))
              refine hcall.out.mono ?_
              rintro e w3 ⟨v, c, rfl, ho, hl, hW, hi3, hc3⟩
              have S4 := S3.comp (row_cs S3.cur hi3 hc3 ho)
              obtain ⟨B2, cap2, rfl⟩ := own_slice ho
              have S5 := Lib.hid (CS.own_to_row (ps := _) S4 (hW.i64 (by decide)))
              clear hcall S3 S4 HS l0 l1 hi3 hc3 ho
              go_wp2_with fail
              refine hK.out _ _ ⟨S5.out.cell (i := 2) rfl (o := 0) rfl, S5.out.cell (i := 2) rfl (o := 1) rfl⟩ (fun hS2 => ?_)
              clear hK hSc
              (try simp only [put_rules])
              (refine walkT_ready (rs := [6]) (by kernel_rfl) (by simp) (by decide) ?_; refine AllT.cons rfl (fun K hK => ?_) AllT.nil)
              go_simp
              have S6 := CS.own_to_row (c := []) (S5.out.own_made 3 1) (fun x hx => by simp at hx)
              have S7 := Lib.hid (CS.pend S6.swap)
              refine hK.out _ _ ⟨S7.out.cell (i := 2) rfl (o := 0) rfl, S7.out.cell (i := 2) rfl (o := 1) rfl⟩ (fun hS3 => ?_)
              clear hK hS2 S5 S6
              (try simp only [put_rules])
              (refine walkT_ready (rs := [7]) (by kernel_rfl) (by simp) (by decide) ?_; refine AllT.cons rfl (fun K hK => ?_) AllT.nil)
              go_simp
              obtain ⟨w4, hw4⟩ : ∃ w4, w3.alloc (.cells #[] 3) = w4 := ⟨_, rfl⟩
              have hsz4 : w3.heap.size + 1 = w4.heap.size := by rw [← hw4, World.size_alloc]
              rw [hw4] at S7 ⊢
              have hrows := Lib.hid ((S7.out.rows (i := 1) rfl).alloc (.cells #[.slice B2 c.length cap2, .slice (some ⟨w3.heap.size, 0, none⟩) 0 0] 43))
              have kB : (w4.alloc (.cells #[.slice B2 c.length cap2, .slice (some ⟨w3.heap.size, 0, none⟩) 0 0] 43)).cell? ⟨w4.heap.size, 0, none⟩ = some (.slice B2 c.length cap2) := cell_of_row _ _ _ _ _ _ (heap_alloc_new w4 _)
              have kC : (w4.alloc (.cells #[.slice B2 c.length cap2, .slice (some ⟨w3.heap.size, 0, none⟩) 0 0] 43)).cell? ⟨w4.heap.size, 1, none⟩ = some (.slice (some ⟨w3.heap.size, 0, none⟩) 0 0) := cell_of_row _ _ _ _ _ _ (heap_alloc_new w4 _)
              rw [← hsz4] at kB kC
              have S6 := Lib.hid (S7.out.alloc (.cells #[.slice B2 c.length cap2, .slice (some ⟨w3.heap.size, 0, none⟩) 0 0] 43))
              refine hK.out _ _ ⟨S6.out.cell (i := 2) rfl (o := 0) rfl, S6.out.cell (i := 2) rfl (o := 1) rfl⟩ (fun hS4 => ?_)
              clear hK hS3
              (try simp only [put_rules])
              (refine walkT_done (by kernel_rfl) ?_)
              simp only [List.drop_succ_cons, List.drop_zero]
              (refine wpList_append_src rfl _ _ rfl Tryz.underlying59 hi hz0 hz1 hz2 rfl (by decide) _ ys.length _ rfl hrows.out _ 2 2 [.slice B2 c.length cap2, .slice (some ⟨w3.heap.size, 0, none⟩) 0 0] rfl (Src.two kB kC) (by simp [Value.oneCell']) (by unfold maxLen; omega) (by omega) ?_; intro vY wY hownY hgY hatY)
              have S9 := S7.out.rows_append (bal (bb _) _) hownY hgY hatY
              obtain ⟨aY, cY, rfl⟩ := own_slice hownY
              have b1 := S9.cell (i := 1) rfl (o := 1) rfl
              have q1 := S9.frozen (i := 1) rfl 1
              have hlen : ys.length + 2 = (ys ++ [c, []]).length := by simp
              have S8 : Hid (CS w g ca cl cc (A + 1500) (wY.setCell ⟨fb, 1, none⟩ (.slice aY (ys.length + 2) cY)) [Rows Ty.int 43 (.slice aY (ys ++ [c, []]).length cY) (cs ++ [.slice B2 c.length cap2, .slice (some ⟨w3.heap.size, 0, none⟩) 0 0]) (ys ++ [c, []]), Box fb 61 #[.int .i64 vars, .slice aY (ys ++ [c, []]).length cY], Box w.heap.size 61 #[.int .i64 0, .slice none 0 0]]) := by
                unfold Hid; rw [← hlen]
                have := (S9.store (i := 1) rfl 1 (.slice aY (ys.length + 2) cY)).mono (show _ ≤ A + 1500 by omega)
                rw [hlen] at this ⊢
                exact this
              have HC2 : Hid (SmallR 13 (ys ++ [c, []])) := fun y hy => by
                rcases List.mem_append.1 hy with hy | hy
                · exact HC.out y hy
                · rcases List.mem_cons.1 hy with rfl | hy
                  · exact ⟨hW.i64 (by decide), by omega⟩
                  · obtain rfl : y = [] := by simpa using hy
                    exact ⟨by simp, by simp⟩
              clear S6 S7 S9 hrows hownY hgY hatY kB kC hW HC
              replace hlen := Lib.hid hlen
              rw [hlen.out]
              rw [hlen.out] at S8
              generalize ys ++ [c, []] = zs at *
              have hzl : zs.length ≤ 62 := by rw [← hlen.out]; omega
              have l0 := S8.out.cell (i := 1) rfl (o := 0) rfl
              have l1 := S8.out.cell (i := 1) rfl (o := 1) rfl
              have r0 := S8.out.cell (i := 2) rfl (o := 0) rfl
              have r1 := S8.out.cell (i := 2) rfl (o := 1) rfl
              have f0 := S8.out.frozen (i := 2) rfl 0
              have f1 := S8.out.frozen (i := 2) rfl 1
              have SF := (S8.out.store (i := 2) rfl 0 (.int .i64 vars)).store (i := 2) rfl 1 (.slice aY zs.length cY)
              have j0 := SF.cell (i := 2) rfl (o := 0) rfl
              have j1 := SF.cell (i := 2) rfl (o := 1) rfl
              have hR := Lib.hid ((CS.front (qs := [_]) SF).mono (show _ ≤ A + 2000 by omega))
              clear SF S8
              go_wp2_with fail
              exact bodyPost_ret (v := .agg #[.int .i64 vars, .slice aY zs.length cY]) (by simp [results, Tryz.results105, go_sem, j0, j1]) rfl ⟨vars, aY, cY, _, zs, rfl, by omega, by omega, by omega, HC2.out, hR.out⟩
          · as_aux_lemma =>
              go_simp
              have S6 := CS.own_to_row (c := []) (HS.out.drew.own_made 3 1) (fun x hx => by simp at hx)
              (repeat (first | simp only [drew_size] at S6 | simp only [World.size_setCell] at S6 | simp only [World.size_alloc] at S6))
              replace S6 := Lib.hid S6
              refine hK.out _ _ ⟨S6.out.cell (i := 2) rfl (o := 0) rfl, S6.out.cell (i := 2) rfl (o := 1) rfl⟩ (fun hS2 => ?_)
              clear hK hSc HS l0 l1
              (try simp only [put_rules])
              (refine walkT_ready (rs := [5]) (by kernel_rfl) (by simp) (by decide) ?_; refine AllT.cons rfl (fun K hK => ?_) AllT.nil)
              go_simp
              go_at_call 91
              have hcall := Lib.hid (cur_clause vars (by omega) _ g ca cl cc _ S6.out.cur (by omega))
              refine hcall.out.mono ?_
              rintro e w4 ⟨v, c, rfl, ho, hl, hW, hi3, hc3⟩
              have S4 := S6.out.comp (row_cs S6.out.cur hi3 hc3 ho)
              obtain ⟨B2, cap2, rfl⟩ := own_slice ho
              have S7 := Lib.hid (CS.pend (CS.own_to_row (ps := _) S4 (hW.i64 (by decide))))
              clear hcall S4 S6 hi3 hc3 ho
              go_wp2_with fail
              refine hK.out _ _ ⟨S7.out.cell (i := 2) rfl (o := 0) rfl, S7.out.cell (i := 2) rfl (o := 1) rfl⟩ (fun hS3 => ?_)
              clear hK hS2
              (try simp only [put_rules])
              (refine walkT_ready (rs := [7]) (by kernel_rfl) (by simp) (by decide) ?_; refine AllT.cons rfl (fun K hK => ?_) AllT.nil)
              go_simp
              have hrows := Lib.hid ((S7.out.rows (i := 1) rfl).alloc (.cells #[.slice B2 c.length cap2, .slice (some ⟨w5.heap.size, 0, none⟩) 0 0] 43))
              have kB : (w4.alloc (.cells #[.slice B2 c.length cap2, .slice (some ⟨w5.heap.size, 0, none⟩) 0 0] 43)).cell? ⟨w4.heap.size, 0, none⟩ = some (.slice B2 c.length cap2) := cell_of_row _ _ _ _ _ _ (heap_alloc_new w4 _)
              have kC : (w4.alloc (.cells #[.slice B2 c.length cap2, .slice (some ⟨w5.heap.size, 0, none⟩) 0 0] 43)).cell? ⟨w4.heap.size, 1, none⟩ = some (.slice (some ⟨w5.heap.size, 0, none⟩) 0 0) := cell_of_row _ _ _ _ _ _ (heap_alloc_new w4 _)
              have S6 := Lib.hid (S7.out.alloc (.cells #[.slice B2 c.length cap2, .slice (some ⟨w5.heap.size, 0, none⟩) 0 0] 43))
              refine hK.out _ _ ⟨S6.out.cell (i := 2) rfl (o := 0) rfl, S6.out.cell (i := 2) rfl (o := 1) rfl⟩ (fun hS4 => ?_)
              clear hK hS3
              (try simp only [put_rules])
              (refine walkT_done (by kernel_rfl) ?_)
              simp only [List.drop_succ_cons, List.drop_zero]
              (refine wpList_append_src rfl _ _ rfl Tryz.underlying59 hi hz0 hz1 hz2 rfl (by decide) _ ys.length _ rfl hrows.out _ 2 2 [.slice B2 c.length cap2, .slice (some ⟨w5.heap.size, 0, none⟩) 0 0] rfl (Src.two kB kC) (by simp [Value.oneCell']) (by unfold maxLen; omega) (by omega) ?_; intro vY wY hownY hgY hatY)
              have S9 := S7.out.rows_append (bal (bb _) _) hownY hgY hatY
              obtain ⟨aY, cY, rfl⟩ := own_slice hownY
              have b1 := S9.cell (i := 1) rfl (o := 1) rfl
              have q1 := S9.frozen (i := 1) rfl 1
              have hlen : ys.length + 2 = (ys ++ [c, []]).length := by simp
              have S8 : Hid (CS w g ca cl cc (A + 1500) (wY.setCell ⟨fb, 1, none⟩ (.slice aY (ys.length + 2) cY)) [Rows Ty.int 43 (.slice aY (ys ++ [c, []]).length cY) (cs ++ [.slice B2 c.length cap2, .slice (some ⟨w5.heap.size, 0, none⟩) 0 0]) (ys ++ [c, []]), Box fb 61 #[.int .i64 vars, .slice aY (ys ++ [c, []]).length cY], Box w.heap.size 61 #[.int .i64 0, .slice none 0 0]]) := by
                unfold Hid; rw [← hlen]
                have := (S9.store (i := 1) rfl 1 (.slice aY (ys.length + 2) cY)).mono (show _ ≤ A + 1500 by omega)
                rw [hlen] at this ⊢
                exact this
              have HC2 : Hid (SmallR 13 (ys ++ [c, []])) := fun y hy => by
                rcases List.mem_append.1 hy with hy | hy
                · exact HC.out y hy
                · rcases List.mem_cons.1 hy with rfl | hy
                  · exact ⟨hW.i64 (by decide), by omega⟩
                  · obtain rfl : y = [] := by simpa using hy
                    exact ⟨by simp, by simp⟩
              clear S6 S7 S9 hrows hownY hgY hatY kB kC hW HC
              replace hlen := Lib.hid hlen
              rw [hlen.out]
              rw [hlen.out] at S8
              generalize ys ++ [c, []] = zs at *
              have hzl : zs.length ≤ 62 := by rw [← hlen.out]; omega
              have l0 := S8.out.cell (i := 1) rfl (o := 0) rfl
              have l1 := S8.out.cell (i := 1) rfl (o := 1) rfl
              have r0 := S8.out.cell (i := 2) rfl (o := 0) rfl
              have r1 := S8.out.cell (i := 2) rfl (o := 1) rfl
              have f0 := S8.out.frozen (i := 2) rfl 0
              have f1 := S8.out.frozen (i := 2) rfl 1
              have SF := (S8.out.store (i := 2) rfl 0 (.int .i64 vars)).store (i := 2) rfl 1 (.slice aY zs.length cY)
              have j0 := SF.cell (i := 2) rfl (o := 0) rfl
              have j1 := SF.cell (i := 2) rfl (o := 1) rfl
              have hR := Lib.hid ((CS.front (qs := [_]) SF).mono (show _ ≤ A + 2000 by omega))
              clear SF S8
              go_wp2_with fail
              exact bodyPost_ret (v := .agg #[.int .i64 vars, .slice aY zs.length cY]) (by simp [results, Tryz.results105, go_sem, j0, j1]) rfl ⟨vars, aY, cY, _, zs, rfl, by omega, by omega, by omega, HC2.out, hR.out⟩
        · as_aux_lemma =>
          have l0 := S5.out.cell (i := 1) rfl (o := 0) rfl
          have l1 := S5.out.cell (i := 1) rfl (o := 1) rfl
          have r0 := S5.out.cell (i := 2) rfl (o := 0) rfl
          have r1 := S5.out.cell (i := 2) rfl (o := 1) rfl
          have f0 := S5.out.frozen (i := 2) rfl 0
          have f1 := S5.out.frozen (i := 2) rfl 1
          have SF := (S5.out.store (i := 2) rfl 0 (.int .i64 vars)).store (i := 2) rfl 1 (.slice B ys.length cap)
          have j0 := SF.cell (i := 2) rfl (o := 0) rfl
          have j1 := SF.cell (i := 2) rfl (o := 1) rfl
          have hR := Lib.hid ((CS.front (qs := [_]) SF).mono (show _ ≤ A + 2000 by omega))
          clear SF S5
          go_wp2_with fail
          exact bodyPost_ret (v := .agg #[.int .i64 vars, .slice B ys.length cap]) (by simp [results, Tryz.results105, go_sem, j0, j1]) rfl ⟨vars, B, cap, cs, ys, rfl, by omega, by omega, by omega, HC.out, hR.out⟩
end Go.Proofs.YtahbepajeplcmaaGreatDoor

/- Contracts: drawn Cnfs as inputs of laws. -/
namespace Go.Proofs.YtahbepajeplcmaaGreatDoor
open Go.RowKit

section
variable {w0 w w' : World} {ps qs : List Asn} {A A' g cl cc : Nat} {ca : Option Addr}
theorem Sp.cur_laid (h : Sp w0 w ps) (ca : Option Addr) (cl cc : Nat) : Sp w0 (w.alloc (.cells #[.slice ca cl cc, .int .i64 0, .int .u64 0] 74)) (CurA 0 w.heap.size ca cl cc :: ps) :=
  h.new (bal (bb w) _) (F := [w.heap.size]) ⟨rfl, 0, 0, heap_alloc_new w _, Nat.le_refl 0, Int.le_refl 0, by omega⟩ (by simp)
theorem Sp.cs_call (h : Sp w0 w (CurA A g ca cl cc :: ps)) (k : CS w g ca cl cc A' w' qs) (hc : CodeOk w0 ca cl) (hs : cl ≤ 65536) : Sp w0 w' (qs ++ CurA A' g ca cl cc :: ps) := by
  have hb := ((h.cur (A' := A') (i := 0) rfl hc hs).2 w' k.cur k.chg).below
  obtain ⟨h1, F, ⟨F1, F2, rfl, hd, ⟨rfl, -⟩, h5⟩, h3⟩ := h
  have hg : g < w.heap.size := by
    obtain ⟨A0, h0⟩ := k.1
    exact h0.lt
  obtain ⟨k0, k1, k2, G, k3, k4⟩ := k
  have hk := sep_keep h5 fun b hm => k2.block b (sep_lt h5 b hm) fun hb => by
    obtain rfl : b = g := by simpa using hb
    exact hd b (by simp) hm
  refine ⟨hb, G ++ ([g] ++ F2), sep_append k3 ⟨[g], F2, rfl, hd, ⟨rfl, k1.ok⟩, hk⟩ (fun b hb hb2 => ?_), fun b hb => ?_⟩
  · have := k4 b hb
    rcases List.mem_append.1 hb2 with h' | h'
    · obtain rfl : b = g := by simpa using h'
      omega
    · have := sep_lt h5 b h'; omega
  · rcases List.mem_append.1 hb with hb | hb
    · have := k4 b hb; have := h1.size; omega
    · exact h3 b hb
end
/-- A drawn Cnf of its own. -/
def CnfD (w : World) (e : Ending) (w' : World) : Prop := ∃ (vars : Int) (B : Option Addr) (cap : Nat) (cs : List Value) (xss : List (List Int)), e = .returned (.agg #[.int .i64 vars, .slice B xss.length cap]) ∧ -1 ≤ vars ∧ vars ≤ 13 ∧ xss.length ≤ 62 ∧ SmallR 13 xss ∧
  Sp w w' [Rows Ty.int 43 (.slice B xss.length cap) cs xss]

set_option maxRecDepth 100000 in
set_option maxHeartbeats 4000000 in
theorem drawIsCnf_any (ca : Option Addr) (cl cc : Nat) (w : World) (hc : CodeOk w ca cl) (hs : cl ≤ 65536) : Calls Tryz.prog 99 #[.slice ca cl cc] w (CnfD w) := by
  have S0 := ((Sp.start w).alloc_box #[.int .i64 0, .slice none 0 0] 61).cur_laid ca cl cc
  simp only [World.size_alloc] at S0
  have hi := Lib.hid (S0.cur (A' := 0) (i := 0) rfl hc hs).1
  replace S0 := Lib.hid S0
  go_enter Tryz.func99, Tryz.ntmps99
  go_wp2_with fail
  refine (cur_cnf 0 (w.heap.size + 1) ca cl cc _ hi.out (by omega)).mono ?_
  rintro e w1 ⟨vars, B, cap, cs, xss, rfl, hv0, hv1, hl, HC, T⟩
  replace HC := Lib.hid HC
  have S1 := S0.out.cs_call T hc hs
  clear T S0 hi
  have e0 := S1.cell (i := 2) rfl (o := 0) rfl
  have e1 := S1.cell (i := 2) rfl (o := 1) rfl
  have f0 := S1.frozen (i := 2) rfl 0
  have f1 := S1.frozen (i := 2) rfl 1
  have S6 := (S1.store (i := 2) rfl 0 (.int .i64 vars)).store (i := 2) rfl 1 (.slice B xss.length cap)
  have j0 := S6.cell (i := 2) rfl (o := 0) rfl
  have j1 := S6.cell (i := 2) rfl (o := 1) rfl
  have hR := Lib.hid (Sp.front (qs := [_]) S6)
  clear S6 S1
  go_wp2_with fail
  exact bodyPost_ret (v := .agg #[.int .i64 vars, .slice B xss.length cap]) (by simp [results, Tryz.results99, go_sem, j0, j1]) rfl ⟨vars, B, cap, cs, xss, rfl, hv0, hv1, hl, HC.out, hR.out⟩

/- left out: the seat has no spec.DrawBackboneOf -/
end Go.Proofs.YtahbepajeplcmaaGreatDoor

/- Contracts: drawn assignments, and drawn inputs of laws on assignments. -/
namespace Go.Proofs.YtahbepajeplcmaaGreatDoor
open Go.RowKit

def leastS (a b : Int) : Int := if a < b then a else b
def mostS (a b : Int) : Int := if b < a then a else b
theorem l1LeastS_any (a b : Int) (w : World) : Calls Tryz.prog 93 #[.int .i64 a, .int .i64 b] w fun e w' => e = .returned (.int .i64 (leastS a b)) ∧ w = w' := by
  unfold leastS
  by_cases h : a < b
  · rw [if_pos h]
    have d : decide (a < b) = true := decide_eq_true h
    clear h
    go_enter Tryz.func93, Tryz.ntmps93
    go_wp2_with fail
    go_ret
    exact ⟨rfl, rfl⟩
  · rw [if_neg h]
    have d : decide (a < b) = false := decide_eq_false h
    clear h
    go_enter Tryz.func93, Tryz.ntmps93
    go_wp2_with fail
    go_ret
    exact ⟨rfl, rfl⟩
theorem l1MostS_any (a b : Int) (w : World) : Calls Tryz.prog 92 #[.int .i64 a, .int .i64 b] w fun e w' => e = .returned (.int .i64 (mostS a b)) ∧ w = w' := by
  unfold mostS
  by_cases h : b < a
  · rw [if_pos h]
    have d : decide (b < a) = true := decide_eq_true h
    clear h
    go_enter Tryz.func92, Tryz.ntmps92
    go_wp2_with fail
    go_ret
    exact ⟨rfl, rfl⟩
  · rw [if_neg h]
    have d : decide (b < a) = false := decide_eq_false h
    clear h
    go_enter Tryz.func92, Tryz.ntmps92
    go_wp2_with fail
    go_ret
    exact ⟨rfl, rfl⟩
theorem among_three3 {w1 : World} {vars : Int} {g A cl cc : Nat} {ca : Option Addr} (h : CurIs A g ca cl cc w1) (hv : -1 ≤ vars ∧ vars ≤ 13) (hA : A ≤ 80000000) :
    Calls Tryz.prog 87 #[.pointer (some ⟨g, 0, none⟩), .slice (some ⟨w1.heap.size, 0, none⟩) 3 3] (w1.alloc (.cells #[.int .i64 0, .int .i64 (vars + 1), .int .i64 (-9223372036854775808)] 3)) (CurPost (IntIn (-9223372036854775808) 14) (A + 2) g ca cl cc (w1.alloc (.cells #[.int .i64 0, .int .i64 (vars + 1), .int .i64 (-9223372036854775808)] 3))) := by
  have hg := h.lt
  refine cur_among (-9223372036854775808) 14 w1.heap.size 0 3 3 A g ca cl cc _ (h.grow (bal (bb _) _)) (by omega) (by decide) (by decide) (ints_new rfl fun j hj => ?_) (by omega)
  match j, hj with
  | 0, _ => exact ⟨_, rfl, by decide, by decide⟩
  | 1, _ => exact ⟨_, rfl, by omega, by omega⟩
  | 2, _ => exact ⟨_, rfl, by decide, by decide⟩
theorem AllI.snoc {c : List Int} {x : Int} (h : AllI c) (hx : I64 x) : AllI (c ++ [x]) := fun y hy => by
  rcases List.mem_append.1 hy with hy | hy
  · exact h y hy
  · obtain rfl : y = x := by simpa using hy
    exact hx

/- left out: the seat has no (*loop.example/g01080/spec.l1Cur).assignment -/

/- left out: the seat has no (*loop.example/g01080/spec.l1Cur).anyAssignment -/
end Go.Proofs.YtahbepajeplcmaaGreatDoor

/- Contracts: drawn inputs of laws on assignments. -/
namespace Go.Proofs.YtahbepajeplcmaaGreatDoor
open Go.RowKit

def SetD (w : World) (e : Ending) (w' : World) : Prop := ∃ (vars l : Int) (D : Option Addr) (dc : Nat) (d : List Int), e = .returned (.tuple #[.int .i64 vars, .slice D d.length dc, .int .i64 l]) ∧ -1 ≤ vars ∧ vars ≤ 13 ∧ -14 ≤ l ∧ l ≤ 14 ∧ d.length ≤ 13 ∧ AllI d ∧ Sp w w' [Own 3 1 (.slice D d.length dc) d.length (d.map (.int .i64))]
def MergeD (w : World) (e : Ending) (w' : World) : Prop := ∃ (vars : Int) (D E : Option Addr) (dc ec : Nat) (d f : List Int), e = .returned (.tuple #[.int .i64 vars, .slice D d.length dc, .slice E f.length ec]) ∧ -1 ≤ vars ∧ vars ≤ 13 ∧ d.length ≤ 13 ∧ f.length ≤ 13 ∧ AllI d ∧ AllI f ∧
  Sp w w' [Own 3 1 (.slice D d.length dc) d.length (d.map (.int .i64)), Own 3 1 (.slice E f.length ec) f.length (f.map (.int .i64))]
def TotD (w : World) (e : Ending) (w' : World) : Prop := ∃ (vars x : Int), e = .returned (.tuple #[.int .i64 vars, .int .i64 x]) ∧ -1 ≤ vars ∧ vars ≤ 13 ∧ -1 ≤ x ∧ x ≤ 4096 ∧ Below w.heap.size w w'

/- left out: the seat has no spec.DrawSetLiteral -/

/- left out: the seat has no spec.DrawMergeAssignments -/

/- left out: the seat has no spec.DrawTotalOf -/
end Go.Proofs.YtahbepajeplcmaaGreatDoor

/- Contract: texts that are spoilt. Printed by gen_txt.py. -/
namespace Go.Proofs.YtahbepajeplcmaaGreatDoor
open Go.RowKit

def SizeLe (n : Nat) (s : ByteArray) : Prop := s.size ≤ n
theorem ext_size (s : ByteArray) (a b : Nat) (h : b ≤ s.size) : (s.extract a b).size = b - a := by
  rw [← bl_length, bl_extract, List.length_take, List.length_drop, bl_length]; omega
theorem CurIs.drewN {A g : Nat} {ca : Option Addr} {cl cc : Nat} {w : World} (h : CurIs A g ca cl cc w) (n : Nat) : CurIs A g ca cl cc (w.drewN n) := h.grow ⟨rfl, rfl, rfl, Nat.le_refl _, fun _ _ => rfl⟩
theorem Chg.drewN {F : List Nat} {a w : World} (h : Chg F a w) (n : Nat) : Chg F a (w.drewN n) := h.then ⟨rfl, rfl, rfl, Nat.le_refl _, fun _ _ => rfl⟩

set_option maxRecDepth 100000 in
set_option maxHeartbeats 4000000 in
theorem cur_spoilt (t u : ByteArray) (A g : Nat) (ca : Option Addr) (cl cc : Nat) (w : World) (h : CurIs A g ca cl cc w) (hA : A ≤ 90000000) (ht : t.size ≤ 1000000) (hu0 : 0 < u.size) (hu : u.size ≤ 1000) :
    Calls Tryz.prog 95 #[.pointer (some ⟨g, 0, none⟩), .string t, .string u] w (CurPost (StrR (SizeLe (t.size + 1))) (A + 6) g ca cl cc w) := by
  by_cases h0 : (bl t).isEmpty = true
  · obtain ⟨Y, hY⟩ : ∃ Y, u.extract 0 1 = Y := ⟨_, rfl⟩
    have hYs : Hid (Y.size ≤ t.size + 1) := by unfold Hid; rw [← hY, ext_size _ _ _ (by omega)]; omega
    have hu1 : (1 : Int) ≤ (u.size : Int) := by omega
    have h0' : bl t = [] := by simpa using h0
    go_enter Tryz.func95, Tryz.ntmps95
    go_wp2_with fail
    go_ret
    exact ⟨_, ⟨Y, hYs.out, rfl⟩, rfl, h.mono (by omega), Chg.refl _ _⟩
  have h0' : (bl t).isEmpty = false := by simpa using h0
  have ht0 : Hid (0 < t.size) := by
    unfold Hid
    rw [← bl_length]
    cases hh : bl t with
    | nil => rw [hh] at h0'; cases h0'
    | cons _ _ => simp
  clear h0
  go_enter Tryz.func95, Tryz.ntmps95
  go_wp2_with fail
  refine (cur_pick_at (lo := 0) (hi := (t.size : Int) - 1) h (by omega) (by omega) (by omega) (by have := ht0.out; omega) (by omega)).mono ?_
  rintro e w1 ⟨_, ⟨x, hx0, hx1, rfl⟩, rfl, hi1, hc1⟩
  obtain ⟨i, rfl⟩ := Int.eq_ofNat_of_zero_le hx0
  have hi : i + 1 ≤ t.size := by omega
  have hi' : (i : Int) + 1 ≤ (t.size : Int) := by omega
  clear hx1 hx0
  go_wp2_with fail
  refine (cur_pick_at (lo := 0) (hi := (u.size : Int) - 1) hi1 (by omega) (by omega) (by omega) (by omega) (by omega)).mono ?_
  rintro e w2 ⟨_, ⟨x, hx0, hx1, rfl⟩, rfl, hi2, hc2⟩
  obtain ⟨j, rfl⟩ := Int.eq_ofNat_of_zero_le hx0
  have hj : j + 1 ≤ u.size := by omega
  have hj' : (j : Int) + 1 ≤ (u.size : Int) := by omega
  clear hx1 hx0
  obtain ⟨X, hX⟩ : ∃ X, u.extract j u.size = X := ⟨_, rfl⟩
  have hXs : (1 : Int) ≤ (X.size : Int) := by rw [← hX, ext_size _ _ _ (by omega)]; omega
  obtain ⟨Y, hY⟩ : ∃ Y, X.extract 0 1 = Y := ⟨_, rfl⟩
  have hYs : Hid (Y.size = 1) := by unfold Hid; rw [← hY, ext_size _ _ _ (by omega)]
  go_wp2_with fail
  refine (cur_pick_at (lo := 0) (hi := 2) hi2 (by omega) (by omega) (by omega) (by omega) (by omega)).mono ?_
  rintro e w3 ⟨_, ⟨z, hz0, hz1, rfl⟩, rfl, hi3, hc3⟩
  have hc := Lib.hid ((hc1.trans hc2).trans hc3)
  replace hi3 := Lib.hid (hi3.mono (show A + 2 + 2 + 2 ≤ A + 6 by omega))
  clear hc1 hc2 hc3 hi1 hi2 h hX hY hXs hj hj'
  obtain ⟨T1, hT1⟩ : ∃ T, t.extract 0 i = T := ⟨_, rfl⟩
  obtain ⟨T2, hT2⟩ : ∃ T, t.extract i t.size = T := ⟨_, rfl⟩
  obtain ⟨T3, hT3⟩ : ∃ T, t.extract (i + 1) t.size = T := ⟨_, rfl⟩
  have s1 : Hid (T1.size = i) := by unfold Hid; rw [← hT1, ext_size _ _ _ (by omega)]; omega
  have s2 : Hid (T2.size = t.size - i) := by unfold Hid; rw [← hT2, ext_size _ _ _ (by omega)]
  have s3 : Hid (T3.size = t.size - (i + 1)) := by unfold Hid; rw [← hT3, ext_size _ _ _ (by omega)]
  obtain ⟨Z, hZ⟩ : ∃ Z, ms (bl T1 ++ bl Y) = Z := ⟨_, rfl⟩
  have sZ : Hid (Z.size = i + 1) := by unfold Hid; rw [← hZ, ms_size, List.length_append, bl_length, bl_length, s1.out, hYs.out]
  have a1 := fun w' => run_add (P := Tryz.prog) w' T1 Y (by rw [s1.out, hYs.out]; omega)
  rw [hZ] at a1
  have a2 := fun w' => run_add (P := Tryz.prog) w' Z T2 (by rw [sZ.out, s2.out]; omega)
  have a3 := fun w' => run_add (P := Tryz.prog) w' Z T3 (by rw [sZ.out, s3.out]; omega)
  have a4 := fun w' => run_add (P := Tryz.prog) w' T1 T3 (by rw [s1.out, s3.out]; omega)
  have r2 : Hid ((ms (bl Z ++ bl T2)).size ≤ t.size + 1) := by unfold Hid; rw [ms_size, List.length_append, bl_length, bl_length, sZ.out, s2.out]; omega
  have r3 : Hid ((ms (bl Z ++ bl T3)).size ≤ t.size + 1) := by unfold Hid; rw [ms_size, List.length_append, bl_length, bl_length, sZ.out, s3.out]; omega
  have r4 : Hid ((ms (bl T1 ++ bl T3)).size ≤ t.size + 1) := by unfold Hid; rw [ms_size, List.length_append, bl_length, bl_length, s1.out, s3.out]; omega
  have hi0 : (i : Int) ≤ (t.size : Int) := by omega
  have hw1 : IntKind.i64.wrap ((i : Int) + 1) = (i : Int) + 1 := IntWalk.i64_in _ (by omega)
  have hn1 : (0 : Int) ≤ (i : Int) + 1 := by omega
  have hn2 : ((i : Int) + 1).toNat = i + 1 := by omega
  clear hZ
  obtain rfl | rfl | rfl : z = 0 ∨ z = 1 ∨ z = 2 := by omega
  · go_wp2_with fail
    go_quiet (fail)
    go_wp2_with fail
    go_ret
    exact ⟨_, ⟨_, r2.out, rfl⟩, rfl, hi3.out.drewN _, hc.out.drewN _⟩
  · go_wp2_with fail
    go_quiet (fail)
    go_wp2_with fail
    go_ret
    exact ⟨_, ⟨_, r3.out, rfl⟩, rfl, hi3.out.drewN _, hc.out.drewN _⟩
  · go_wp2_with fail
    go_quiet (fail)
    go_wp2_with fail
    go_ret
    exact ⟨_, ⟨_, r4.out, rfl⟩, rfl, hi3.out.drewN _, hc.out.drewN _⟩
end Go.Proofs.YtahbepajeplcmaaGreatDoor
