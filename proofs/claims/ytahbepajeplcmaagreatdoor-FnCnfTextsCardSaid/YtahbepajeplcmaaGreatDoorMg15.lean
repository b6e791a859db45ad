/- Lemmas and contracts for a law, put together out of several texts: WalkCnfTexts. -/
import Derived.Test.YtahbepajeplcmaaGreatDoorMg14
import Derived.Deep.DeepCutAuto
/- The walk of FnCnfTexts. Printed by gen_walkcnftexts.py. -/
namespace Go.Proofs.YtahbepajeplcmaaGreatDoor
open Go.RowKit

theorem vBigX_any (ca : Option Addr) (cl cc : Nat) (w : World) : Calls Tryz.prog 19 #[.slice ca cl cc] w fun e w' => e = .returned (.bool (decide ((65536 : Int) < (cl : Int)))) ∧ w' = w := by
  go_enter Tryz.func19, Tryz.ntmps19
  go_wp2_with fail
  go_ret
  exact ⟨rfl, rfl⟩

set_option maxRecDepth 100000 in
set_option maxHeartbeats 16000000 in
theorem FnCnfTexts_walk (ca : Option Addr) (cl cc : Nat) (w : World) (hE : NumEnv w) (hc : CodeOk w ca cl) :
    Calls Tryz.prog 5 #[.slice ca cl cc] w fun e w' => e = .returned (.bool true) ∧ Below w.heap.size w w' := by
  have hcH := Lib.hid hc
  replace hE := Lib.hid hE
  clear hc
  by_cases hbig : (65536 : Int) < (cl : Int)
  · go_enter Tryz.func5, Tryz.ntmps5
    go_wp2_with fail
    refine (vBigX_any _ _ _ _).mono ?_
    rintro e w1 ⟨rfl, rfl⟩
    rw [decide_eq_true hbig]
    go_wp2_with fail
    go_ret
    exact ⟨rfl, bb _⟩
  have hsm : cl ≤ 65536 := by omega
  have hv := Lib.hid (decide_eq_false hbig)
  clear hbig
  go_enter Tryz.func5, Tryz.ntmps5
  go_wp2_with fail
  refine (vBigX_any _ _ _ _).mono ?_
  rintro e w1 ⟨rfl, rfl⟩
  rw [hv.out]
  clear hv
  have HB0 := Lib.hid (bb w1)
  go_wp2_with fail
  refine (drawCnfText_any ca cl cc _ (hcH.out.grow HB0.out) hsm).mono ?_
  rintro e w2 ⟨va, B1, p1, cs1, xss, rfl, hv0, hv1, hl, HC, T⟩
  obtain ⟨F1, hr, -⟩ := T.rows_done (i := 0) rfl
  have R1 := Lib.hid (Ty.row_down hr)
  have S := Lib.hid (Sp.of_below (btr HB0.out T.below))
  clear T hr HC HB0
  obtain ⟨b1, hb1⟩ : ∃ b, w2.heap.size = b := ⟨_, rfl⟩
  have T := S.out.alloc_box #[.int .i64 va, .slice B1 xss.length p1] 61
  rw [hb1] at T
  replace R1 := Lib.hid (Ty.row_grow R1.out (bal (bb _) (.cells #[.int .i64 va, .slice B1 xss.length p1] 61)))
  obtain ⟨w3, hw3⟩ : ∃ W, w2.alloc (.cells #[.int .i64 va, .slice B1 xss.length p1] 61) = W := ⟨_, rfl⟩
  replace S := Lib.hid T
  clear T
  rw [hw3] at S
  rw [hw3] at R1
  have q1 := Lib.hid (fun W (h : Below w3.heap.size w3 W) => implCnfText_any va _ xss F1 W ((hE.out.sp S.out).env.grow h) (Ty.row_grow R1.out h))
  have q2 := Lib.hid (fun W (h : Below w3.heap.size w3 W) => specCnfText_any va _ xss F1 W (Ty.row_grow R1.out h))
  have q3 := Lib.hid (fun W (h : Below w3.heap.size w3 W) => implIsCnf_any va _ xss F1 W (Ty.row_grow R1.out h))
  have hyes := Lib.hid (cnfText_back va xss)
  generalize ms (cnfA va xss) = s at *
  obtain ⟨ok, hok⟩ : ∃ q, goodB va xss = q := ⟨_, rfl⟩
  rw [hok] at q1 q2 q3 hyes
  clear hok
  have e1 := ba_neX s
  have e2 : (ok != ok) = false := by cases ok <;> rfl
  have HB := Lib.hid (bb w3)
  have c0 := S.out.cell (i := 0) rfl (o := 0) rfl
  have c1 := S.out.cell (i := 0) rfl (o := 1) rfl
  go_wp2_with fail
  refine (q1.out _ HB.out).mono ?_
  rintro e w4 ⟨rfl, hb⟩
  replace S := Lib.hid (S.out.grow hb)
  replace R1 := Lib.hid (Ty.row_grow R1.out hb)
  replace HB := Lib.hid (btr HB.out hb)
  clear hb c0 c1 q1
  have c0 := S.out.cell (i := 0) rfl (o := 0) rfl
  have c1 := S.out.cell (i := 0) rfl (o := 1) rfl
  go_wp2_with fail
  refine (q2.out _ HB.out).mono ?_
  rintro e w5 ⟨rfl, hb⟩
  replace S := Lib.hid (S.out.grow hb)
  replace R1 := Lib.hid (Ty.row_grow R1.out hb)
  replace HB := Lib.hid (btr HB.out hb)
  clear hb c0 c1 q2
  have c0 := S.out.cell (i := 0) rfl (o := 0) rfl
  have c1 := S.out.cell (i := 0) rfl (o := 1) rfl
  go_wp2_with fail
  refine (q3.out _ HB.out).mono ?_
  rintro e w6 ⟨rfl, hb⟩
  replace S := Lib.hid (S.out.grow hb)
  replace R1 := Lib.hid (Ty.row_grow R1.out hb)
  replace HB := Lib.hid (btr HB.out hb)
  clear hb c0 c1 q3 HB e1 e2
  go_upto_if 63 with fail
  go_cut [] (fun wx => Hid (Below w1.heap.size w1 wx))
  case first =>
    as_aux_lemma =>
      cases ok
      · have hB := Lib.hid S.out.below
        clear S R1 hyes
        go_wp2_with fail
        go_meet
        exact hB
      · obtain ⟨hsz, hpar, hsl⟩ := hyes.out rfl
        replace hpar := Lib.hid hpar
        replace hsl := Lib.hid hsl
        have q1 := implParseCnf_any s w6 (hE.out.sp S.out) hsz
        rw [hpar.out] at q1
        replace q1 := Lib.hid q1
        clear hyes
        go_wp2_with fail
        refine (q1.out).mono ?_
        rintro e w7 ⟨B2, p2, cs2, rfl, T⟩
        have hb := T.below
        obtain ⟨F2, hr2, -⟩ := T.rows_done (i := 0) rfl
        have R2 := Lib.hid (Ty.row_down hr2)
        clear T hr2
        replace S := Lib.hid (S.out.grow hb)
        replace R1 := Lib.hid (Ty.row_grow R1.out hb)
        clear hb q1
        obtain ⟨b2, hb2⟩ : ∃ b, w7.heap.size = b := ⟨_, rfl⟩
        have T := S.out.alloc_box #[.int .i64 va, .slice B2 xss.length p2] 61
        rw [hb2] at T
        replace R1 := Lib.hid (Ty.row_grow R1.out (bal (bb _) (.cells #[.int .i64 va, .slice B2 xss.length p2] 61)))
        replace R2 := Lib.hid (Ty.row_grow R2.out (bal (bb _) (.cells #[.int .i64 va, .slice B2 xss.length p2] 61)))
        obtain ⟨w8, hw8⟩ : ∃ W, w7.alloc (.cells #[.int .i64 va, .slice B2 xss.length p2] 61) = W := ⟨_, rfl⟩
        replace S := Lib.hid T
        clear T
        rw [hw8] at S
        rw [hw8] at R1
        rw [hw8] at R2
        have y1 := Lib.hid (vCnfR_any va B2 B1 p2 p1 xss F2 F1 w8 R2.out R1.out (by omega) hsl.out)
        clear R1 R2
        have c0 := S.out.cell (i := 0) rfl (o := 0) rfl
        have c1 := S.out.cell (i := 0) rfl (o := 1) rfl
        have d0 := S.out.cell (i := 1) rfl (o := 0) rfl
        have d1 := S.out.cell (i := 1) rfl (o := 1) rfl
        go_wp2_with fail
        refine (y1.out).mono ?_
        rintro e w9 ⟨rfl, hb⟩
        replace S := Lib.hid (S.out.grow hb)
        clear hb c0 c1 d0 d1 y1
        have hB := Lib.hid S.out.below
        clear S
        go_wp2_with fail
        go_meet
        exact hB
  case rest =>
  have HB1 := hcut
  clear hcut S R1 hyes hv0 hv1 hl
  go_wp2_with fail
  refine (drawParseCnf_any ca cl cc _ (hcH.out.grow HB1.out) hsm).mono ?_
  rintro e w20 ⟨t, rfl, hts, hb⟩
  have S := Lib.hid (Sp.of_below (btr HB1.out hb))
  clear HB1 hb
  obtain ⟨vg, yss, fine, hpar, hyes, hyl, hys⟩ := parN_out (bl t)
  have q1 := implParseCnf_any t w20 (hE.out.sp S.out) (by omega)
  have q2 := Lib.hid (fun W => specParseCnf_any t W (by omega))
  rw [hpar] at q1
  replace q1 := Lib.hid q1
  replace hpar := Lib.hid hpar
  replace hyes := Lib.hid hyes
  replace hys := Lib.hid hys
  go_wp2_with fail
  refine (q1.out).mono ?_
  rintro e w21 ⟨B3, p3, cs3, rfl, T⟩
  have hb := T.below
  obtain ⟨F3, hr, -⟩ := T.rows_done (i := 0) rfl
  have R3 := Lib.hid (Ty.row_down hr)
  clear T hr
  replace S := Lib.hid (S.out.grow hb)
  clear hb q1
  obtain ⟨b3, hb3⟩ : ∃ b, w21.heap.size = b := ⟨_, rfl⟩
  have T := S.out.alloc_box #[.int .i64 vg, .slice B3 yss.length p3] 61
  rw [hb3] at T
  replace R3 := Lib.hid (Ty.row_grow R3.out (bal (bb _) (.cells #[.int .i64 vg, .slice B3 yss.length p3] 61)))
  obtain ⟨w22, hw22⟩ : ∃ W, w21.alloc (.cells #[.int .i64 vg, .slice B3 yss.length p3] 61) = W := ⟨_, rfl⟩
  replace S := Lib.hid T
  clear T
  rw [hw22] at S
  rw [hw22] at R3
  have q3 := q2.out w22
  rw [hpar.out] at q3
  replace q3 := Lib.hid q3
  clear q2
  go_wp2_with fail
  refine (q3.out).mono ?_
  rintro e w23 ⟨B4, p4, cs4, rfl, T⟩
  have hb := T.below
  obtain ⟨F4, hr, -⟩ := T.rows_done (i := 0) rfl
  have R4 := Lib.hid (Ty.row_down hr)
  clear T hr
  replace S := Lib.hid (S.out.grow hb)
  replace R3 := Lib.hid (Ty.row_grow R3.out hb)
  clear hb q3
  obtain ⟨b4, hb4⟩ : ∃ b, w23.heap.size = b := ⟨_, rfl⟩
  have T := S.out.alloc_box #[.int .i64 vg, .slice B4 yss.length p4] 61
  rw [hb4] at T
  replace R3 := Lib.hid (Ty.row_grow R3.out (bal (bb _) (.cells #[.int .i64 vg, .slice B4 yss.length p4] 61)))
  replace R4 := Lib.hid (Ty.row_grow R4.out (bal (bb _) (.cells #[.int .i64 vg, .slice B4 yss.length p4] 61)))
  obtain ⟨w24, hw24⟩ : ∃ W, w23.alloc (.cells #[.int .i64 vg, .slice B4 yss.length p4] 61) = W := ⟨_, rfl⟩
  replace S := Lib.hid T
  clear T
  rw [hw24] at S
  rw [hw24] at R3
  rw [hw24] at R4
  have y1 := Lib.hid (vCnfR_any vg B3 B4 p3 p4 yss F3 F4 w24 R3.out R4.out (by omega) hys.out)
  have e2 : (fine != fine) = false := by cases fine <;> rfl
  clear R4
  have c0 := S.out.cell (i := 1) rfl (o := 0) rfl
  have c1 := S.out.cell (i := 1) rfl (o := 1) rfl
  have d0 := S.out.cell (i := 0) rfl (o := 0) rfl
  have d1 := S.out.cell (i := 0) rfl (o := 1) rfl
  go_wp2_with fail
  refine (y1.out).mono ?_
  rintro e w25 ⟨rfl, hb⟩
  replace S := Lib.hid (S.out.grow hb)
  replace R3 := Lib.hid (Ty.row_grow R3.out hb)
  clear hb c0 c1 d0 d1 y1 e2
  go_upto_if 98 with fail
  go_cut [] (fun wx => Hid (Below w1.heap.size w1 wx))
  case first =>
    as_aux_lemma =>
      cases fine
      · have hB := Lib.hid S.out.below
        clear S R3 hyes hys hpar
        go_wp2_with fail
        go_meet
        exact hB
      · obtain ⟨hg, htx⟩ := hyes.out rfl
        have q1 := implCnfText_any vg _ yss F3 w25 ((hE.out.sp S.out).env) R3.out
        rw [hg, htx, ms_bl] at q1
        replace q1 := Lib.hid q1
        have e1 := ba_neX t
        clear hyes hys hpar hg htx R3
        have c0 := S.out.cell (i := 1) rfl (o := 0) rfl
        have c1 := S.out.cell (i := 1) rfl (o := 1) rfl
        go_wp2_with fail
        refine (q1.out).mono ?_
        rintro e w26 ⟨rfl, hb⟩
        replace S := Lib.hid (S.out.grow hb)
        clear hb c0 c1 q1
        have hB := Lib.hid S.out.below
        clear S
        go_wp2_with fail
        go_meet
        exact hB
  case rest =>
  have HB1 := hcut
  clear hcut S R3 hyes hys hpar hyl hts
  go_wp2_with fail
  refine (drawDropWeaker_any ca cl cc _ (hcH.out.grow HB1.out) hsm).mono ?_
  rintro e w40 ⟨va, B1, p1, cs1, xss, rfl, hv0, hv1, hl, HC, T⟩
  obtain ⟨F1, hr, -⟩ := T.rows_done (i := 0) rfl
  have R1 := Lib.hid (Ty.row_down hr)
  have S := Lib.hid (Sp.of_below (btr HB1.out T.below))
  clear T hr HC HB1 hcH hE
  obtain ⟨b1, hb1⟩ : ∃ b, w40.heap.size = b := ⟨_, rfl⟩
  have T := S.out.alloc_box #[.int .i64 va, .slice B1 xss.length p1] 61
  rw [hb1] at T
  replace R1 := Lib.hid (Ty.row_grow R1.out (bal (bb _) (.cells #[.int .i64 va, .slice B1 xss.length p1] 61)))
  obtain ⟨w41, hw41⟩ : ∃ W, w40.alloc (.cells #[.int .i64 va, .slice B1 xss.length p1] 61) = W := ⟨_, rfl⟩
  replace S := Lib.hid T
  clear T
  rw [hw41] at S
  rw [hw41] at R1
  obtain ⟨vs, ss, ok, hss, hsl, hsc, hsy⟩ := sortN_out va xss
  obtain ⟨vt, ts, ok2, hts, htl, htc, hty, hok⟩ := leastN_out va xss
  have hoo : ok2 = ok := by have h1 := congrArg Prod.snd hss; have h2 := congrArg Prod.snd hts; rw [sortN_snd] at h1; rw [leastN_snd] at h2; exact h2.symm.trans h1
  subst hoo
  have q1 := Lib.hid (fun W (h : Below w41.heap.size w41 W) => hss ▸ implSort_any va _ xss F1 W (Ty.row_grow R1.out h))
  have q2 := Lib.hid (fun W (h : Below w41.heap.size w41 W) => hss ▸ specSort_any va _ xss F1 W (Ty.row_grow R1.out h))
  have q3 := Lib.hid (fun W (h : Below w41.heap.size w41 W) => hts ▸ implDropWeaker_any va _ xss F1 W (Ty.row_grow R1.out h))
  have q4 := Lib.hid (fun W (h : Below w41.heap.size w41 W) => hts ▸ specDropWeaker_any va _ xss F1 W (Ty.row_grow R1.out h))
  have e2 : (ok2 != ok2) = false := by cases ok2 <;> rfl
  replace hsc := Lib.hid hsc
  replace htc := Lib.hid htc
  replace hsy := Lib.hid hsy
  replace hty := Lib.hid hty
  have HB := Lib.hid (bb w41)
  clear hss hts hok hv0 hv1
  have c0 := S.out.cell (i := 0) rfl (o := 0) rfl
  have c1 := S.out.cell (i := 0) rfl (o := 1) rfl
  go_wp2_with fail
  refine (q1.out _ HB.out).mono ?_
  rintro e w42 ⟨B2, p2, F2, rfl, R2, hb⟩
  replace S := Lib.hid (S.out.grow hb)
  replace R1 := Lib.hid (Ty.row_grow R1.out hb)
  replace HB := Lib.hid (btr HB.out hb)
  clear hb c0 c1 q1
  replace R2 := Lib.hid R2
  obtain ⟨b2, hb2⟩ : ∃ b, w42.heap.size = b := ⟨_, rfl⟩
  have T := S.out.alloc_box #[.int .i64 vs, .slice B2 ss.length p2] 61
  rw [hb2] at T
  replace R1 := Lib.hid (Ty.row_grow R1.out (bal (bb _) (.cells #[.int .i64 vs, .slice B2 ss.length p2] 61)))
  replace HB := Lib.hid (bal HB.out (.cells #[.int .i64 vs, .slice B2 ss.length p2] 61))
  replace R2 := Lib.hid (Ty.row_grow R2.out (bal (bb _) (.cells #[.int .i64 vs, .slice B2 ss.length p2] 61)))
  obtain ⟨w43, hw43⟩ : ∃ W, w42.alloc (.cells #[.int .i64 vs, .slice B2 ss.length p2] 61) = W := ⟨_, rfl⟩
  replace S := Lib.hid T
  clear T
  rw [hw43] at S
  rw [hw43] at R1
  rw [hw43] at HB
  rw [hw43] at R2
  have c0 := S.out.cell (i := 1) rfl (o := 0) rfl
  have c1 := S.out.cell (i := 1) rfl (o := 1) rfl
  go_wp2_with fail
  refine (q2.out _ HB.out).mono ?_
  rintro e w44 ⟨B3, p3, F3, rfl, R3, hb⟩
  replace S := Lib.hid (S.out.grow hb)
  replace R1 := Lib.hid (Ty.row_grow R1.out hb)
  replace HB := Lib.hid (btr HB.out hb)
  replace R2 := Lib.hid (Ty.row_grow R2.out hb)
  clear hb c0 c1 q2
  replace R3 := Lib.hid R3
  obtain ⟨b3, hb3⟩ : ∃ b, w44.heap.size = b := ⟨_, rfl⟩
  have T := S.out.alloc_box #[.int .i64 vs, .slice B3 ss.length p3] 61
  rw [hb3] at T
  replace R1 := Lib.hid (Ty.row_grow R1.out (bal (bb _) (.cells #[.int .i64 vs, .slice B3 ss.length p3] 61)))
  replace HB := Lib.hid (bal HB.out (.cells #[.int .i64 vs, .slice B3 ss.length p3] 61))
  replace R2 := Lib.hid (Ty.row_grow R2.out (bal (bb _) (.cells #[.int .i64 vs, .slice B3 ss.length p3] 61)))
  replace R3 := Lib.hid (Ty.row_grow R3.out (bal (bb _) (.cells #[.int .i64 vs, .slice B3 ss.length p3] 61)))
  obtain ⟨w45, hw45⟩ : ∃ W, w44.alloc (.cells #[.int .i64 vs, .slice B3 ss.length p3] 61) = W := ⟨_, rfl⟩
  replace S := Lib.hid T
  clear T
  rw [hw45] at S
  rw [hw45] at R1
  rw [hw45] at HB
  rw [hw45] at R2
  rw [hw45] at R3
  have y1 := Lib.hid (vCnfR_any vs B2 B3 p2 p3 ss F2 F3 w45 R2.out R3.out (by omega) hsc.out)
  clear R3
  have c0 := S.out.cell (i := 1) rfl (o := 0) rfl
  have c1 := S.out.cell (i := 1) rfl (o := 1) rfl
  have d0 := S.out.cell (i := 0) rfl (o := 0) rfl
  have d1 := S.out.cell (i := 0) rfl (o := 1) rfl
  go_wp2_with fail
  refine (y1.out).mono ?_
  rintro e w46 ⟨rfl, hb⟩
  replace S := Lib.hid (S.out.grow hb)
  replace R1 := Lib.hid (Ty.row_grow R1.out hb)
  replace HB := Lib.hid (btr HB.out hb)
  replace R2 := Lib.hid (Ty.row_grow R2.out hb)
  clear hb c0 c1 d0 d1 y1
  have c0 := S.out.cell (i := 2) rfl (o := 0) rfl
  have c1 := S.out.cell (i := 2) rfl (o := 1) rfl
  go_wp2_with fail
  refine (q3.out _ HB.out).mono ?_
  rintro e w47 ⟨B4, p4, cs4, rfl, T⟩
  have hb := T.below
  obtain ⟨F4, hr, -⟩ := T.rows_done (i := 0) rfl
  have R4 := Lib.hid (Ty.row_down hr)
  clear T hr
  replace S := Lib.hid (S.out.grow hb)
  replace R1 := Lib.hid (Ty.row_grow R1.out hb)
  replace HB := Lib.hid (btr HB.out hb)
  replace R2 := Lib.hid (Ty.row_grow R2.out hb)
  clear hb c0 c1 q3
  obtain ⟨b4, hb4⟩ : ∃ b, w47.heap.size = b := ⟨_, rfl⟩
  have T := S.out.alloc_box #[.int .i64 vt, .slice B4 ts.length p4] 61
  rw [hb4] at T
  replace R1 := Lib.hid (Ty.row_grow R1.out (bal (bb _) (.cells #[.int .i64 vt, .slice B4 ts.length p4] 61)))
  replace HB := Lib.hid (bal HB.out (.cells #[.int .i64 vt, .slice B4 ts.length p4] 61))
  replace R2 := Lib.hid (Ty.row_grow R2.out (bal (bb _) (.cells #[.int .i64 vt, .slice B4 ts.length p4] 61)))
  replace R4 := Lib.hid (Ty.row_grow R4.out (bal (bb _) (.cells #[.int .i64 vt, .slice B4 ts.length p4] 61)))
  obtain ⟨w48, hw48⟩ : ∃ W, w47.alloc (.cells #[.int .i64 vt, .slice B4 ts.length p4] 61) = W := ⟨_, rfl⟩
  replace S := Lib.hid T
  clear T
  rw [hw48] at S
  rw [hw48] at R1
  rw [hw48] at HB
  rw [hw48] at R2
  rw [hw48] at R4
  have c0 := S.out.cell (i := 3) rfl (o := 0) rfl
  have c1 := S.out.cell (i := 3) rfl (o := 1) rfl
  go_wp2_with fail
  refine (q4.out _ HB.out).mono ?_
  rintro e w49 ⟨B5, p5, cs5, rfl, T⟩
  have hb := T.below
  obtain ⟨F5, hr, -⟩ := T.rows_done (i := 0) rfl
  have R5 := Lib.hid (Ty.row_down hr)
  clear T hr
  replace S := Lib.hid (S.out.grow hb)
  replace R1 := Lib.hid (Ty.row_grow R1.out hb)
  replace HB := Lib.hid (btr HB.out hb)
  replace R2 := Lib.hid (Ty.row_grow R2.out hb)
  replace R4 := Lib.hid (Ty.row_grow R4.out hb)
  clear hb c0 c1 q4
  obtain ⟨b5, hb5⟩ : ∃ b, w49.heap.size = b := ⟨_, rfl⟩
  have T := S.out.alloc_box #[.int .i64 vt, .slice B5 ts.length p5] 61
  rw [hb5] at T
  replace R1 := Lib.hid (Ty.row_grow R1.out (bal (bb _) (.cells #[.int .i64 vt, .slice B5 ts.length p5] 61)))
  replace HB := Lib.hid (bal HB.out (.cells #[.int .i64 vt, .slice B5 ts.length p5] 61))
  replace R2 := Lib.hid (Ty.row_grow R2.out (bal (bb _) (.cells #[.int .i64 vt, .slice B5 ts.length p5] 61)))
  replace R4 := Lib.hid (Ty.row_grow R4.out (bal (bb _) (.cells #[.int .i64 vt, .slice B5 ts.length p5] 61)))
  replace R5 := Lib.hid (Ty.row_grow R5.out (bal (bb _) (.cells #[.int .i64 vt, .slice B5 ts.length p5] 61)))
  obtain ⟨w50, hw50⟩ : ∃ W, w49.alloc (.cells #[.int .i64 vt, .slice B5 ts.length p5] 61) = W := ⟨_, rfl⟩
  replace S := Lib.hid T
  clear T
  rw [hw50] at S
  rw [hw50] at R1
  rw [hw50] at HB
  rw [hw50] at R2
  rw [hw50] at R4
  rw [hw50] at R5
  have y1 := Lib.hid (vCnfR_any vt B4 B5 p4 p5 ts F4 F5 w50 R4.out R5.out (by omega) htc.out)
  clear R5 HB
  have c0 := S.out.cell (i := 1) rfl (o := 0) rfl
  have c1 := S.out.cell (i := 1) rfl (o := 1) rfl
  have d0 := S.out.cell (i := 0) rfl (o := 0) rfl
  have d1 := S.out.cell (i := 0) rfl (o := 1) rfl
  go_wp2_with fail
  refine (y1.out).mono ?_
  rintro e w51 ⟨rfl, hb⟩
  replace S := Lib.hid (S.out.grow hb)
  replace R1 := Lib.hid (Ty.row_grow R1.out hb)
  replace R2 := Lib.hid (Ty.row_grow R2.out hb)
  replace R4 := Lib.hid (Ty.row_grow R4.out hb)
  clear hb c0 c1 d0 d1 y1
  cases ok2
  · have hB := Lib.hid S.out.below
    clear S R1 R2 R4 hsc htc hsy hty e2
    go_wp2_with fail
    go_ret
    exact ⟨rfl, hB.out⟩
  obtain ⟨hg, hvs, n, hvn, hss⟩ := hsy.out rfl
  obtain ⟨hvt, htt⟩ := hty.out rfl
  subst hvn
  subst hvs
  subst hvt
  have hgs := sortA_good hg
  have hgl := least_good hg
  rw [← hss] at hgs
  rw [← htt] at hgl
  have z1 := areEquivalent_any n _ _ xss ss F1 F2 w51 R1.out R2.out hg hgs
  have z2 := fun W (h : Below w51.heap.size w51 W) => areEquivalent_any n _ _ xss ts F1 F4 W (Ty.row_grow R1.out h) (Ty.row_grow R4.out h) hg hgl
  rw [models_eq (fun b => by rw [hss]; exact sortA_models xss b)] at z1
  simp only [models_eq (xss := xss) (yss := ts) (fun b => by rw [htt]; exact least_models hg b)] at z2
  replace z1 := Lib.hid z1
  replace z2 := Lib.hid z2
  have hpart := Lib.hid (fun i (hi : i < xss.length) => least_part (fun c hc => (goodN_parts hg).2.2 c hc) _ xss[i] rfl (List.getElem_mem hi))
  rw [← htt] at hpart
  have hgx := Lib.hid (goodN_parts hg).2.2
  have hgt := Lib.hid (goodN_parts hgl).2.2
  have HB := Lib.hid (bb w51)
  clear hg hgs hgl hss htt hsy hty hsc htc e2 R2
  have c0 := S.out.cell (i := 4) rfl (o := 0) rfl
  have c1 := S.out.cell (i := 4) rfl (o := 1) rfl
  have d0 := S.out.cell (i := 3) rfl (o := 0) rfl
  have d1 := S.out.cell (i := 3) rfl (o := 1) rfl
  go_wp2_with fail
  refine (z1.out).mono ?_
  rintro e w52 ⟨rfl, hb⟩
  replace S := Lib.hid (S.out.grow hb)
  replace R1 := Lib.hid (Ty.row_grow R1.out hb)
  replace R4 := Lib.hid (Ty.row_grow R4.out hb)
  replace HB := Lib.hid (btr HB.out hb)
  clear hb c0 c1 d0 d1 z1
  have c0 := S.out.cell (i := 4) rfl (o := 0) rfl
  have c1 := S.out.cell (i := 4) rfl (o := 1) rfl
  have d0 := S.out.cell (i := 1) rfl (o := 0) rfl
  have d1 := S.out.cell (i := 1) rfl (o := 1) rfl
  go_wp2_with fail
  refine (z2.out _ HB.out).mono ?_
  rintro e w53 ⟨rfl, hb⟩
  replace S := Lib.hid (S.out.grow hb)
  replace R1 := Lib.hid (Ty.row_grow R1.out hb)
  replace R4 := Lib.hid (Ty.row_grow R4.out hb)
  replace HB := Lib.hid (btr HB.out hb)
  clear hb c0 c1 d0 d1 z2 HB
  have I1 := Lib.hid (cls_cells R1.out)
  have I4 := Lib.hid (cls_cells R4.out)
  obtain ⟨W0, hW0⟩ : ∃ W0, w53 = W0 := ⟨_, rfl⟩
  subst hW0
  have S4 := Lib.hid (S.out.pick (qs := [Box b1 61 #[.int .i64 n, .slice B1 xss.length p1], Box b4 61 #[.int .i64 n, .slice B4 ts.length p4]]) [4, 1] rfl)
  clear S
  go_wp2_with fail
  go_loopw [30, 31, 32, 33, 34] (fun v30 _ _ _ _ wr => ∃ i : Nat, i ≤ xss.length ∧ v30 = .int .i64 i ∧ Hid (Below w53.heap.size w53 wr)) (fun v30 _ _ _ _ _ => xss.length - (intOf v30).toNat)
  case atStart => exact ⟨0, Nat.zero_le _, rfl, bb _⟩
  case round =>
    obtain ⟨i, hi, rfl, hb1⟩ := hrel
    have S5 := Lib.hid (S4.out.grow hb1.out)
    have c1 := S5.out.cell (i := 0) rfl (o := 1) rfl
    by_cases hlt : i < xss.length
    · have hpi := Lib.hid (hpart.out i hlt)
      obtain ⟨x0, xo, X, xc, FX, rfl, m0, hX⟩ := I1.out i hlt
      have hgi := Lib.hid (hgx.out _ (List.getElem_mem hlt))
      have m1 := Lib.hid (cell_below m0 hb1.out)
      have hX1 := Lib.hid (Ty.row_grow hX hb1.out)
      generalize xss[i] = c at *
      clear m0 hX
      go_wp2_with fail
      go_loopw [31, 32, 33, 34] (fun v31 v32 _ _ wz => ∃ (k : Nat) (q : Bool), k ≤ ts.length ∧ v32 = .int .i64 k ∧ v31 = .bool q ∧ Hid (q = (ts.take k).any fun d => d.all (hasI c)) ∧ Hid (Below wr.heap.size wr wz)) (fun _ v32 _ _ _ => ts.length - (intOf v32).toNat)
      case atStart => exact ⟨0, false, Nat.zero_le _, rfl, rfl, rfl, bb _⟩
      case round =>
        rename World => wi
        obtain ⟨k, q, hk, rfl, rfl, hq, hb2⟩ := hrel
        have S6 := Lib.hid (S5.out.grow hb2.out)
        have d1 := S6.out.cell (i := 1) rfl (o := 1) rfl
        by_cases hlt2 : k < ts.length
        · obtain ⟨y0, yo, Y, yc, FY, rfl, n0, hY⟩ := I4.out k hlt2
          have k0 := cell_regrown (S6.out.cell (i := 0) rfl (o := 0) rfl)
          have k1 := cell_regrown (S6.out.cell (i := 0) rfl (o := 1) rfl)
          have k2 := cell_regrown d1
          have k3 := cell_regrown (cell_below n0 (btr hb1.out hb2.out))
          have k4 := cell_regrown (cell_below m1.out hb2.out)
          have hcall := Lib.hid (fun W (h : Below wi.heap.size wi W) => isPart_any n _ _ ts[k] c FY FX W (Ty.row_grow (Ty.row_grow hY (btr hb1.out hb2.out)) h) (Ty.row_grow (Ty.row_grow hX1.out hb2.out) h) (hgt.out _ (List.getElem_mem hlt2)) hgi.out)
          have hstep : Hid ((ts.take (k + 1)).any (fun d => d.all (hasI c)) = (q || ts[k].all (hasI c))) := by
            unfold Hid
            rw [List.take_succ_eq_append_getElem hlt2, List.any_append, hq.out, List.any_cons, List.any_nil, Bool.or_false]
          obtain ⟨z, hz⟩ : ∃ z, ts[k].all (hasI c) = z := ⟨_, rfl⟩
          rw [hz] at hcall hstep
          generalize ts[k] = d at *
          clear hz n0 hY hq
          go_wp2_with fail
          refine wp_region_quiet_below (by kernel_rfl) (by kernel_rfl) ?_
          repeat (any_goals (first | go_big_quiet_step ((go_at_call 27; exact Calls.regrown_of (hcall.out _ (below_regrown _ _ _))))))
          refine wpQuiet_nil ?_
          rintro w91 ⟨pp, hw91⟩
          have hb3 := Lib.hid (hw91 ▸ below_regrown _ _ _ : Below wi.heap.size wi w91)
          have hb4 := Lib.hid (btr hb2.out hb3.out)
          clear hw91 k0 k1 k2 k3 k4 d1 hcall hb2 S6
          cases q <;> cases z
          all_goals
            go_wp2_with fail
            go_roundw
            case rel => exact ⟨k + 1, _, by omega, by go_num, rfl, hstep.out.symm, hb4⟩
            case measure => simp [intOf]; omega
        · obtain rfl : k = ts.length := by omega
          obtain rfl : q = true := by
            rw [hq.out, List.take_length]
            obtain ⟨d, hd, hd2⟩ := hpi.out
            exact List.any_eq_true.2 ⟨d, hd, hd2⟩
          have hb4 := Lib.hid (btr hb1.out hb2.out)
          clear hq S5
          go_wp2_with fail
          go_roundw
          case rel => exact ⟨i + 1, by omega, by go_num, hb4⟩
          case measure => simp [intOf]; omega
    · have hB := Lib.hid S5.out.below
      go_wp2_with fail
      go_ret
      exact ⟨rfl, hB.out⟩
end Go.Proofs.YtahbepajeplcmaaGreatDoor
