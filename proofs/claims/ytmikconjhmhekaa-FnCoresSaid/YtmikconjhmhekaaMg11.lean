/- Lemmas and contracts for a law, put together out of several texts: WalkCores. -/
import Derived.Test.YtmikconjhmhekaaMg10
import Derived.Deep.DeepCutAuto
/- The walk of FnCores. -/
namespace Go.Proofs.Ytmikconjhmhekaa
open Go.RowKit

set_option maxRecDepth 100000 in
set_option maxHeartbeats 16000000 in
theorem FnCores_walk (ca : Option Addr) (cl cc : Nat) (w : World) (hc : CodeOk w ca cl) :
    Calls Try.prog 4 #[.slice ca cl cc] w fun e w' => e = .returned (.bool true) ∧ Below w.heap.size w w' := by
  have hcH := Lib.hid hc
  clear hc
  by_cases hbig : (65536 : Int) < (cl : Int)
  · go_enter Try.func4, Try.ntmps4
    go_wp2_with fail
    refine (rBig_any _ _ _ _).mono ?_
    rintro e w1 ⟨rfl, rfl⟩
    rw [decide_eq_true hbig]
    go_wp2_with fail
    go_ret
    exact ⟨rfl, bb _⟩
  have hsm : cl ≤ 65536 := by omega
  have hv := Lib.hid (decide_eq_false hbig)
  clear hbig
  go_enter Try.func4, Try.ntmps4
  go_wp2_with fail
  refine (rBig_any _ _ _ _).mono ?_
  rintro e w1 ⟨rfl, rfl⟩
  rw [hv.out]
  clear hv
  go_wp2_with fail
  refine (drawLeast5_any ca cl cc w1 hcH.out hsm).mono ?_
  rintro e w2 ⟨vars, B, cap, cs, xss, rfl, hv0, hv1, hl, HC, T⟩
  clear HC hv0 hv1
  obtain ⟨F, hrow, -⟩ := T.rows_done (i := 0) rfl
  replace hrow := Ty.row_down hrow
  obtain ⟨b_f, hbf⟩ : ∃ b, w2.heap.size = b := ⟨_, rfl⟩
  have S0 := (Sp.of_below T.below).alloc_box #[.int .i64 vars, .slice B xss.length cap] 26
  rw [hbf] at S0
  replace hrow := Ty.row_below hrow (bal (bb w2) (.cells #[.int .i64 vars, .slice B xss.length cap] 26)) (Ty.row_lt hrow)
  obtain ⟨W0, hW0⟩ : ∃ W, w2.alloc (.cells #[.int .i64 vars, .slice B xss.length cap] 26) = W := ⟨_, rfl⟩
  rw [hW0] at S0 hrow
  have hB0 := Lib.hid (bb W0)
  replace S0 := Lib.hid S0
  clear T
  obtain ⟨ok, fine, is, one, zs, ls, q1, q2, q3, q4, q5, hone, qz, ql, hlz, hzl, hll⟩ := cores_one vars _ xss F W0 hrow (by omega)
  clear hrow
  obtain ⟨m, hm⟩ : ∃ m, xss.length = m := ⟨_, rfl⟩
  rw [hm] at q1 q2 q3 q4 q5 qz ql S0 hW0 ⊢
  clear hm hl
  have e1 : (ok != ok) = false := by cases ok <;> rfl
  have e2 : (fine != fine) = false := by cases fine <;> rfl
  have c0 := S0.out.cell (i := 0) rfl (o := 0) rfl
  have c1 := S0.out.cell (i := 0) rfl (o := 1) rfl
  go_wp2_with fail
  refine (q1.out _ hB0.out).mono ?_
  rintro e w3 ⟨D, dc, rfl, hT, hdc, hb3⟩
  replace hT := Lib.hid hT
  have S3 := Lib.hid (S0.out.grow hb3)
  have hB3 := Lib.hid (btr hB0.out hb3)
  clear S0 hB0 hb3 c0 c1 q1
  replace hdc := Lib.hid hdc
  have c0 := S3.out.cell (i := 0) rfl (o := 0) rfl
  have c1 := S3.out.cell (i := 0) rfl (o := 1) rfl
  go_wp2_with fail
  refine (q2.out _ hB3.out).mono ?_
  rintro e w4 ⟨E, ec, rfl, hU, hb4⟩
  replace hU := Lib.hid hU
  have S4 := Lib.hid (S3.out.grow hb4)
  have hB4 := Lib.hid (btr hB3.out hb4)
  have hT_4 := Lib.hid (hT.out.grow hb4)
  clear S3 hB3 hT hb4 c0 c1 q2
  have hri := Lib.hid (rInts_same D E dc ec zs w4 hT_4.out hU.out (by omega))
  clear hU
  go_wp2_with fail
  refine hri.out.mono ?_
  rintro e w5 ⟨rfl, hb5⟩
  have S5 := Lib.hid (S4.out.grow hb5)
  have hB5 := Lib.hid (btr hB4.out hb5)
  have hT_5 := Lib.hid (hT_4.out.grow hb5)
  clear S4 hB4 hT_4 hb5 hri
  have c0 := S5.out.cell (i := 0) rfl (o := 0) rfl
  have c1 := S5.out.cell (i := 0) rfl (o := 1) rfl
  go_wp2_with fail
  refine (q3.out _ hB5.out).mono ?_
  rintro e w6 ⟨D2, dc2, rfl, hT2, hdc2, hb6⟩
  replace hT2 := Lib.hid hT2
  have S6 := Lib.hid (S5.out.grow hb6)
  have hB6 := Lib.hid (btr hB5.out hb6)
  have hT_6 := Lib.hid (hT_5.out.grow hb6)
  clear S5 hB5 hT_5 hb6 c0 c1 q3
  replace hdc2 := Lib.hid hdc2
  have c0 := S6.out.cell (i := 0) rfl (o := 0) rfl
  have c1 := S6.out.cell (i := 0) rfl (o := 1) rfl
  go_wp2_with fail
  refine (q4.out _ hB6.out).mono ?_
  rintro e w7 ⟨E2, ec2, rfl, hU2, hb7⟩
  replace hU2 := Lib.hid hU2
  have S7 := Lib.hid (S6.out.grow hb7)
  have hB7 := Lib.hid (btr hB6.out hb7)
  have hT_7 := Lib.hid (hT_6.out.grow hb7)
  have hT2_7 := Lib.hid (hT2.out.grow hb7)
  clear S6 hB6 hT_6 hT2 hb7 c0 c1 q4
  have hri := Lib.hid (rInts_same D2 E2 dc2 ec2 ls w7 hT2_7.out hU2.out (by omega))
  clear hU2
  go_wp2_with fail
  refine hri.out.mono ?_
  rintro e w8 ⟨rfl, hb8⟩
  have S8 := Lib.hid (S7.out.grow hb8)
  have hB8 := Lib.hid (btr hB7.out hb8)
  have hT_8 := Lib.hid (hT_7.out.grow hb8)
  have hT2_8 := Lib.hid (hT2_7.out.grow hb8)
  clear S7 hB7 hT_7 hT2_7 hb8 hri
  have c0 := S8.out.cell (i := 0) rfl (o := 0) rfl
  have c1 := S8.out.cell (i := 0) rfl (o := 1) rfl
  go_wp2_with fail
  refine (q5.out _ hB8.out).mono ?_
  rintro e w9 ⟨rfl, hb9⟩
  have S9 := Lib.hid (S8.out.grow hb9)
  have hB9 := Lib.hid (btr hB8.out hb9)
  have hT_9 := Lib.hid (hT_8.out.grow hb9)
  have hT2_9 := Lib.hid (hT2_8.out.grow hb9)
  clear S8 hB8 hT_8 hT2_8 hb9 c0 c1 q5
  go_upto_region 13 with fail
  go_cut [83] (fun s wx => s = .bool false ∧ wx = w9)
  case first =>
    as_aux_lemma =>
      cases one
      · go_wp2_with fail
        go_meet
        exact ⟨rfl, rfl⟩
      · have hone2 := Lib.hid (hone.out rfl)
        clear hone
        go_wp2_with fail
        go_meet
        exact ⟨by rw [hone2.out]; cases is <;> rfl, rfl⟩
  case rest =>
  obtain ⟨rfl, hww⟩ := hcut
  subst hww
  clear hone e1 e2
  go_upto_if 84 with fail
  go_cut [] (fun wx => Hid (Sp w1 wx [Box b_f 26 #[.int .i64 vars, .slice B m cap]]) ∧ Hid (Below W0.heap.size W0 wx) ∧ Hid (IntsAt wx D2 ls))
  case first =>
    as_aux_lemma =>
      cases ok
      · go_wp2_with fail
        go_meet
        exact ⟨S9, hB9, hT2_9⟩
      · have hk := Lib.hid (qz.out rfl _ D dc hB9.out hT_9.out hdc.out)
        have c0 := S9.out.cell (i := 0) rfl (o := 0) rfl
        have c1 := S9.out.cell (i := 0) rfl (o := 1) rfl
        go_wp2_with fail
        refine hk.out.mono ?_
        rintro e wy ⟨rfl, hby⟩
        have S10 := Lib.hid (S9.out.grow hby)
        have hB10 := Lib.hid (btr hB9.out hby)
        have hT2_10 := Lib.hid (hT2_9.out.grow hby)
        clear hk c0 c1 hby S9 hB9 hT2_9 hT_9
        go_wp2_with fail
        go_meet
        exact ⟨S10, hB10, hT2_10⟩
  case rest =>
  clear S9 hB9 hT2_9 hT_9 qz hdc
  obtain ⟨S9, hB9, hT2_9⟩ := hcut
  go_upto_if 97 with fail
  go_cut [] (fun wx => Hid (Sp w1 wx [Box b_f 26 #[.int .i64 vars, .slice B m cap]]) ∧ Hid (Below W0.heap.size W0 wx))
  case first =>
    as_aux_lemma =>
      cases fine
      · go_wp2_with fail
        go_meet
        exact ⟨S9, hB9⟩
      · have hk := Lib.hid (ql.out rfl _ D2 dc2 hB9.out hT2_9.out hdc2.out)
        have c0 := S9.out.cell (i := 0) rfl (o := 0) rfl
        have c1 := S9.out.cell (i := 0) rfl (o := 1) rfl
        have hlen := hlz.out rfl
        have e5 : decide ((zs.length : Int) < (ls.length : Int)) = false := decide_eq_false (by omega)
        go_wp2_with fail
        refine hk.out.mono ?_
        rintro e wy ⟨rfl, hby⟩
        have S10 := Lib.hid (S9.out.grow hby)
        have hB10 := Lib.hid (btr hB9.out hby)
        clear hk c0 c1 hby S9 hB9 hT2_9
        go_wp2_with fail
        go_meet
        exact ⟨S10, hB10⟩
  case rest =>
  clear S9 hB9 hT2_9 ql hdc2 hlz hzl hll
  obtain ⟨HS, hB9⟩ := hcut
  clear hB9
  go_wp2_with fail
  refine (drawIsMinimalCore_any ca cl cc _ (hcH.out.grow HS.out.below) hsm).mono ?_
  rintro e w13 ⟨vg, Bg, capg, csg, yss, D, dc, d, rfl, hg0, hg1, hgl, hGC, hdl, hdI, T13⟩
  obtain ⟨b_g, hbg⟩ : ∃ b, w13.heap.size = b := ⟨_, rfl⟩
  have S13 := (HS.out.seq T13).alloc_box #[.int .i64 vg, .slice Bg yss.length capg] 26
  rw [hbg] at S13
  clear HS T13 hg0 hg1 hGC
  obtain ⟨W13, hW13⟩ : ∃ W, w13.alloc (.cells #[.int .i64 vg, .slice Bg yss.length capg] 26) = W := ⟨_, rfl⟩
  rw [hW13] at S13
  obtain ⟨Fg, hrg, -⟩ := S13.rows_done (i := 1) rfl
  obtain ⟨Fd, hrd, -, -⟩ := own_row (S13.own (i := 2) rfl) hdI
  obtain ⟨a, told, b, fine2, ls2, q1, q2, q3, q4, q5, hba, hl2, hll2⟩ := cores_two vg _ yss Fg Fd D dc d W13 (Ty.row_down hrg) (by omega) (Ty.row_down hrd) (by omega)
  clear hrg hrd
  obtain ⟨k, hk⟩ : ∃ k, yss.length = k := ⟨_, rfl⟩
  rw [hk] at q1 q2 q3 q4 q5 S13 hW13 ⊢
  clear hk hgl
  have S14 : Hid (Sp w1 W13 [Box b_g 26 #[.int .i64 vg, .slice Bg k capg]]) := Lib.hid (S13.pick [0] rfl)
  have hB13 := Lib.hid (bb W13)
  clear S13 hdI
  have e6 : (a != a) = false := by cases a <;> rfl
  have e7 : (b != b) = false := by cases b <;> rfl
  have e8 : (told != told) = false := by cases told <;> rfl
  have c0 := S14.out.cell (i := 0) rfl (o := 0) rfl
  have c1 := S14.out.cell (i := 0) rfl (o := 1) rfl
  go_wp2_with fail
  refine (q1.out _ hB13.out).mono ?_
  rintro e w14 ⟨rfl, hb14⟩
  have S15 := Lib.hid (S14.out.grow hb14)
  have hB14 := Lib.hid (btr hB13.out hb14)
  clear S14 hB13 hb14 c0 c1 q1
  have c0 := S15.out.cell (i := 0) rfl (o := 0) rfl
  have c1 := S15.out.cell (i := 0) rfl (o := 1) rfl
  go_wp2_with fail
  refine (q2.out _ hB14.out).mono ?_
  rintro e w15 ⟨rfl, hb15⟩
  have S16 := Lib.hid (S15.out.grow hb15)
  have hB15 := Lib.hid (btr hB14.out hb15)
  clear S15 hB14 hb15 c0 c1 q2
  have c0 := S16.out.cell (i := 0) rfl (o := 0) rfl
  have c1 := S16.out.cell (i := 0) rfl (o := 1) rfl
  go_wp2_with fail
  refine (q3.out _ hB15.out).mono ?_
  rintro e w16 ⟨rfl, hb16⟩
  have S17 := Lib.hid (S16.out.grow hb16)
  have hB16 := Lib.hid (btr hB15.out hb16)
  clear S16 hB15 hb16 c0 c1 q3
  have c0 := S17.out.cell (i := 0) rfl (o := 0) rfl
  have c1 := S17.out.cell (i := 0) rfl (o := 1) rfl
  go_wp2_with fail
  refine (q4.out _ hB16.out).mono ?_
  rintro e w17 ⟨rfl, hb17⟩
  have S18 := Lib.hid (S17.out.grow hb17)
  have hB17 := Lib.hid (btr hB16.out hb17)
  clear S17 hB16 hb17 c0 c1 q4
  go_upto_region 30 with fail
  go_cut [173] (fun s wx => s = .bool false ∧ wx = w17)
  case first =>
    as_aux_lemma =>
      cases b
      · go_wp2_with fail
        go_meet
        exact ⟨rfl, rfl⟩
      · obtain rfl : a = true := hba.out rfl
        go_wp2_with fail
        go_meet
        exact ⟨rfl, rfl⟩
  case rest =>
  obtain ⟨rfl, hww⟩ := hcut
  subst hww
  clear hba e6 e7 e8
  go_upto_region 32 with fail
  go_cut [177] (fun s wx => ∃ q, s = .bool q ∧ Hid (q = true → a = true) ∧ Hid (Sp w1 wx [Box b_g 26 #[.int .i64 vg, .slice Bg k capg]]) ∧ Hid (Below W13.heap.size W13 wx))
  case first =>
    as_aux_lemma =>
      cases told
      · go_wp2_with fail
        go_meet
        exact ⟨false, rfl, (fun h => by cases h), S18, hB17⟩
      · go_wp2_with fail
        go_meet
        exact ⟨a, rfl, (fun h => h), S18, hB17⟩
  case rest =>
  clear S18 hB17
  obtain ⟨q, rfl, hqa, S18, hB17⟩ := hcut
  go_upto_if 177 with fail
  go_cut [] (fun wx => Hid (Below w1.heap.size w1 wx))
  case first =>
    as_aux_lemma =>
      cases q
      · have hB := Lib.hid S18.out.below
        clear S18
        go_wp2_with fail
        go_meet
        exact hB
      · have hls := hl2.out (hqa.out rfl)
        replace hls := Lib.hid hls
        have c0 := S18.out.cell (i := 0) rfl (o := 0) rfl
        have c1 := S18.out.cell (i := 0) rfl (o := 1) rfl
        go_wp2_with fail
        refine (q5.out _ hB17.out).mono ?_
        rintro e w18 ⟨D3, dc3, rfl, -, -, hb18⟩
        have hB := Lib.hid (S18.out.grow hb18).below
        clear S18 hB17 hb18 c0 c1 q5
        cases fine2
        · go_wp2_with fail
          go_meet
          exact hB
        · have hlen := hls.out rfl
          have e5 : decide ((d.length : Int) < (ls2.length : Int)) = false := decide_eq_false (by omega)
          go_wp2_with fail
          go_meet
          exact hB
  case rest =>
  have hB := hcut
  clear hcut S18 hB17 q5
  go_wp2_with fail
  go_ret
  exact ⟨rfl, hB.out⟩
end Go.Proofs.Ytmikconjhmhekaa
