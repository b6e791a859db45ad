/- Lemmas and contracts for a law, put together out of several texts: WalkSides. -/
import Derived.Test.YtmikconjhmhekaaMg12
import Derived.Deep.DeepCutAuto
/- The walk of FnSides. Printed by gen_walksides.py. -/
namespace Go.Proofs.Ytmikconjhmhekaa
open Go.RowKit

theorem vBigS_any (ca : Option Addr) (cl cc : Nat) (w : World) : Calls Try.prog 45 #[.slice ca cl cc] w fun e w' => e = .returned (.bool (decide ((65536 : Int) < (cl : Int)))) ∧ w' = w := by
  go_enter Try.func45, Try.ntmps45
  go_wp2_with fail
  go_ret
  exact ⟨rfl, rfl⟩

set_option maxRecDepth 100000 in
set_option maxHeartbeats 16000000 in
theorem FnSides_walk (ca : Option Addr) (cl cc : Nat) (w : World) (hc : CodeOk w ca cl) :
    Calls Try.prog 7 #[.slice ca cl cc] w fun e w' => e = .returned (.bool true) ∧ Below w.heap.size w w' := by
  have hcH := Lib.hid hc
  clear hc
  by_cases hbig : (65536 : Int) < (cl : Int)
  · go_enter Try.func7, Try.ntmps7
    go_wp2_with fail
    refine (vBigS_any _ _ _ _).mono ?_
    rintro e w1 ⟨rfl, rfl⟩
    rw [decide_eq_true hbig]
    go_wp2_with fail
    go_ret
    exact ⟨rfl, bb _⟩
  have hsm : cl ≤ 65536 := by omega
  have hv := Lib.hid (decide_eq_false hbig)
  clear hbig
  go_enter Try.func7, Try.ntmps7
  go_wp2_with fail
  refine (vBigS_any _ _ _ _).mono ?_
  rintro e w1 ⟨rfl, rfl⟩
  rw [hv.out]
  clear hv
  go_wp2_with fail
  refine (drawSwapSides_any ca cl cc w1 hcH.out hsm).mono ?_
  rintro e w2 ⟨vars, B, cap, cs, xss, k, rfl, hv0, hv1, hl, hk0, hk1, HC, T⟩
  clear HC hv0 hv1
  obtain ⟨F, hrow, -⟩ := T.rows_done (i := 0) rfl
  replace hrow := Ty.row_down hrow
  obtain ⟨b_f, hbf⟩ : ∃ b, w2.heap.size = b := ⟨_, rfl⟩
  have S := (Sp.of_below T.below).alloc_box #[.int .i64 vars, .slice B xss.length cap] 26
  rw [hbf] at S
  replace hrow := Ty.row_below hrow (bal (bb w2) (.cells #[.int .i64 vars, .slice B xss.length cap] 26)) (Ty.row_lt hrow)
  obtain ⟨W0, hW0⟩ : ∃ W, w2.alloc (.cells #[.int .i64 vars, .slice B xss.length cap] 26) = W := ⟨_, rfl⟩
  rw [hW0] at S hrow
  have HB := Lib.hid (bb W0)
  replace S := Lib.hid S
  clear T
  cases hq : askB vars xss k
  · as_aux_lemma =>
      obtain ⟨q1, q2, q3, q4⟩ := sides_no vars _ xss k F W0 hrow hq
      clear hrow hq
      have c0 := S.out.cell (i := 0) rfl (o := 0) rfl
      have c1 := S.out.cell (i := 0) rfl (o := 1) rfl
      go_wp2_with fail
      refine (q1.out _ HB.out).mono ?_
      rintro e w3 ⟨D1, dc1, E1, ec1, G1, gc1, rfl, Ia, Ib, Ic, hb⟩
      replace S := Lib.hid (S.out.grow hb)
      replace HB := Lib.hid (btr HB.out hb)
      clear hb c0 c1 q1
      replace Ia := Lib.hid Ia
      replace Ib := Lib.hid Ib
      replace Ic := Lib.hid Ic
      have c0 := S.out.cell (i := 0) rfl (o := 0) rfl
      have c1 := S.out.cell (i := 0) rfl (o := 1) rfl
      go_wp2_with fail
      refine (q2.out _ HB.out).mono ?_
      rintro e w4 ⟨D2, dc2, E2, ec2, G2, gc2, rfl, Ja, Jb, Jc, hb⟩
      replace S := Lib.hid (S.out.grow hb)
      replace HB := Lib.hid (btr HB.out hb)
      replace Ia := Lib.hid (Ia.out.grow hb)
      replace Ib := Lib.hid (Ib.out.grow hb)
      replace Ic := Lib.hid (Ic.out.grow hb)
      clear hb c0 c1 q2
      replace Ja := Lib.hid Ja
      replace Jb := Lib.hid Jb
      replace Jc := Lib.hid Jc
      go_wp2_with fail
      refine (vInts_same D1 D2 dc1 dc2 ([] : List Int) _ Ia.out Ja.out (by simp)).mono ?_
      rintro e w5 ⟨rfl, hb⟩
      replace S := Lib.hid (S.out.grow hb)
      replace HB := Lib.hid (btr HB.out hb)
      replace Ia := Lib.hid (Ia.out.grow hb)
      replace Ib := Lib.hid (Ib.out.grow hb)
      replace Ic := Lib.hid (Ic.out.grow hb)
      replace Ja := Lib.hid (Ja.out.grow hb)
      replace Jb := Lib.hid (Jb.out.grow hb)
      replace Jc := Lib.hid (Jc.out.grow hb)
      clear hb 
      go_wp2_with fail
      refine (vInts_same E1 E2 ec1 ec2 ([] : List Int) _ Ib.out Jb.out (by simp)).mono ?_
      rintro e w6 ⟨rfl, hb⟩
      replace S := Lib.hid (S.out.grow hb)
      replace HB := Lib.hid (btr HB.out hb)
      replace Ia := Lib.hid (Ia.out.grow hb)
      replace Ib := Lib.hid (Ib.out.grow hb)
      replace Ic := Lib.hid (Ic.out.grow hb)
      replace Ja := Lib.hid (Ja.out.grow hb)
      replace Jb := Lib.hid (Jb.out.grow hb)
      replace Jc := Lib.hid (Jc.out.grow hb)
      clear hb 
      go_wp2_with fail
      refine (vInts_same G1 G2 gc1 gc2 ([] : List Int) _ Ic.out Jc.out (by simp)).mono ?_
      rintro e w7 ⟨rfl, hb⟩
      replace S := Lib.hid (S.out.grow hb)
      replace HB := Lib.hid (btr HB.out hb)
      replace Ia := Lib.hid (Ia.out.grow hb)
      replace Ib := Lib.hid (Ib.out.grow hb)
      replace Ic := Lib.hid (Ic.out.grow hb)
      replace Ja := Lib.hid (Ja.out.grow hb)
      replace Jb := Lib.hid (Jb.out.grow hb)
      replace Jc := Lib.hid (Jc.out.grow hb)
      clear hb 
      clear Ja
      clear Jb
      clear Jc
      clear Ia
      clear Ib
      clear Ic
      have c0 := S.out.cell (i := 0) rfl (o := 0) rfl
      have c1 := S.out.cell (i := 0) rfl (o := 1) rfl
      go_wp2_with fail
      refine (q3.out _ HB.out).mono ?_
      rintro e w8 ⟨Bg, cg, Fg, rfl, hR, hb⟩
      replace S := Lib.hid (S.out.grow hb)
      replace HB := Lib.hid (btr HB.out hb)
      clear hb c0 c1 q3
      replace hR := Lib.hid hR
      obtain ⟨b_g, hb_g⟩ : ∃ b, w8.heap.size = b := ⟨_, rfl⟩
      have T := S.out.alloc_box #[.int .i64 0, .slice Bg 0 cg] 26
      rw [hb_g] at T
      replace HB := Lib.hid (bal HB.out (.cells #[.int .i64 0, .slice Bg 0 cg] 26))
      replace hR := Lib.hid (Ty.row_grow hR.out (bal (bb _) (.cells #[.int .i64 0, .slice Bg 0 cg] 26)))
      obtain ⟨w9, hw9⟩ : ∃ W, w8.alloc (.cells #[.int .i64 0, .slice Bg 0 cg] 26) = W := ⟨_, rfl⟩
      replace S := Lib.hid T
      clear T
      rw [hw9] at S
      rw [hw9] at HB
      rw [hw9] at hR
      have c0 := S.out.cell (i := 1) rfl (o := 0) rfl
      have c1 := S.out.cell (i := 1) rfl (o := 1) rfl
      go_wp2_with fail
      refine (q4.out _ HB.out).mono ?_
      rintro e w10 ⟨Bw, cw, rfl, Cw, hb⟩
      replace S := Lib.hid (S.out.grow hb)
      replace HB := Lib.hid (btr HB.out hb)
      replace hR := Lib.hid (Ty.row_grow hR.out hb)
      clear hb c0 c1 q4
      replace Cw := Lib.hid Cw
      obtain ⟨b_w, hb_w⟩ : ∃ b, w10.heap.size = b := ⟨_, rfl⟩
      have T := S.out.alloc_box #[.int .i64 0, .slice Bw 0 cw] 26
      rw [hb_w] at T
      replace HB := Lib.hid (bal HB.out (.cells #[.int .i64 0, .slice Bw 0 cw] 26))
      replace hR := Lib.hid (Ty.row_grow hR.out (bal (bb _) (.cells #[.int .i64 0, .slice Bw 0 cw] 26)))
      replace Cw := Lib.hid (Cw.out.grow (bal (bb _) (.cells #[.int .i64 0, .slice Bw 0 cw] 26)))
      obtain ⟨w11, hw11⟩ : ∃ W, w10.alloc (.cells #[.int .i64 0, .slice Bw 0 cw] 26) = W := ⟨_, rfl⟩
      replace S := Lib.hid T
      clear T
      rw [hw11] at S
      rw [hw11] at HB
      rw [hw11] at hR
      rw [hw11] at Cw
      obtain ⟨Ag, cg2, eg, Cg⟩ := cls_row hR.out
      cases eg
      replace Cg := Lib.hid Cg
      have c0 := S.out.cell (i := 1) rfl (o := 0) rfl
      have c1 := S.out.cell (i := 1) rfl (o := 1) rfl
      have d0 := S.out.cell (i := 0) rfl (o := 0) rfl
      have d1 := S.out.cell (i := 0) rfl (o := 1) rfl
      go_wp2_with fail
      refine (vCnf_same 0 Bg Bw cg cw ([] : List (List Int)) _ Cg.out Cw.out (by simp) (by simp)).mono ?_
      rintro e w12 ⟨rfl, hb⟩
      replace S := Lib.hid (S.out.grow hb)
      replace HB := Lib.hid (btr HB.out hb)
      replace hR := Lib.hid (Ty.row_grow hR.out hb)
      replace Cw := Lib.hid (Cw.out.grow hb)
      replace Cg := Lib.hid (Cg.out.grow hb)
      clear hb c0 c1 d0 d1
      clear Cg Cw
      have hB := Lib.hid S.out.below
      clear S HB hR
      go_wp2_with fail
      go_ret
      exact ⟨rfl, hB.out⟩
  · as_aux_lemma =>
      obtain ⟨hg, hk2, -⟩ := ask_parts hq
      obtain ⟨n, rfl⟩ := Int.eq_ofNat_of_zero_le (good_cnf hg).1.1
      obtain ⟨k, rfl⟩ := Int.eq_ofNat_of_zero_le hk2
      obtain ⟨a, b, c, us, ys, q1, q2, q3, q4, q5, q6, q7, hsum, hla, hlb, hlc, hlu, hyl, hys, hxs⟩ := sides_yes n B cap xss k F W0 hrow hq
      obtain ⟨_, _, eC, Cf⟩ := cls_row hrow
      cases eC
      replace Cf := Lib.hid Cf
      clear hrow hq hg hk2
      obtain ⟨z, hz⟩ : ∃ z : Int, (xss.length : Int) - k = z := ⟨_, rfl⟩
      rw [hz] at q3 q4 q6 q7
      replace hz := Lib.hid hz
      have e1 : (z != z) = false := by simp
      have e2 : ((k : Int) != (k : Int)) = false := by simp
      have e3 : ((us.length : Int) != (us.length : Int)) = false := by simp
      have hw1 : IntKind.i64.wrap ((a.length : Int) + b.length) = (a.length : Int) + b.length := IntWalk.i64_in _ (by omega)
      have hw2 : IntKind.i64.wrap ((a.length : Int) + b.length + c.length) = (us.length : Int) := by rw [IntWalk.i64_in _ (by omega)]; have := hsum.out; omega
      have hx1 : xss.length ≤ 1000000 := by omega
      have hy1 : ys.length ≤ 1000000 := by rw [hyl.out]; omega
      have c0 := S.out.cell (i := 0) rfl (o := 0) rfl
      have c1 := S.out.cell (i := 0) rfl (o := 1) rfl
      go_wp2_with fail
      refine (q1.out _ HB.out).mono ?_
      rintro e w3 ⟨D1, dc1, E1, ec1, G1, gc1, rfl, Ia, Ib, Ic, hb⟩
      replace S := Lib.hid (S.out.grow hb)
      replace HB := Lib.hid (btr HB.out hb)
      replace Cf := Lib.hid (Cf.out.grow hb)
      clear hb c0 c1 q1
      replace Ia := Lib.hid Ia
      replace Ib := Lib.hid Ib
      replace Ic := Lib.hid Ic
      have c0 := S.out.cell (i := 0) rfl (o := 0) rfl
      have c1 := S.out.cell (i := 0) rfl (o := 1) rfl
      go_wp2_with fail
      refine (q2.out _ HB.out).mono ?_
      rintro e w4 ⟨D2, dc2, E2, ec2, G2, gc2, rfl, Ja, Jb, Jc, hb⟩
      replace S := Lib.hid (S.out.grow hb)
      replace HB := Lib.hid (btr HB.out hb)
      replace Cf := Lib.hid (Cf.out.grow hb)
      replace Ia := Lib.hid (Ia.out.grow hb)
      replace Ib := Lib.hid (Ib.out.grow hb)
      replace Ic := Lib.hid (Ic.out.grow hb)
      clear hb c0 c1 q2
      replace Ja := Lib.hid Ja
      replace Jb := Lib.hid Jb
      replace Jc := Lib.hid Jc
      go_wp2_with fail
      refine (vInts_same D1 D2 dc1 dc2 a _ Ia.out Ja.out (by omega)).mono ?_
      rintro e w5 ⟨rfl, hb⟩
      replace S := Lib.hid (S.out.grow hb)
      replace HB := Lib.hid (btr HB.out hb)
      replace Cf := Lib.hid (Cf.out.grow hb)
      replace Ia := Lib.hid (Ia.out.grow hb)
      replace Ib := Lib.hid (Ib.out.grow hb)
      replace Ic := Lib.hid (Ic.out.grow hb)
      replace Ja := Lib.hid (Ja.out.grow hb)
      replace Jb := Lib.hid (Jb.out.grow hb)
      replace Jc := Lib.hid (Jc.out.grow hb)
      clear hb 
      go_wp2_with fail
      refine (vInts_same E1 E2 ec1 ec2 b _ Ib.out Jb.out (by omega)).mono ?_
      rintro e w6 ⟨rfl, hb⟩
      replace S := Lib.hid (S.out.grow hb)
      replace HB := Lib.hid (btr HB.out hb)
      replace Cf := Lib.hid (Cf.out.grow hb)
      replace Ia := Lib.hid (Ia.out.grow hb)
      replace Ib := Lib.hid (Ib.out.grow hb)
      replace Ic := Lib.hid (Ic.out.grow hb)
      replace Ja := Lib.hid (Ja.out.grow hb)
      replace Jb := Lib.hid (Jb.out.grow hb)
      replace Jc := Lib.hid (Jc.out.grow hb)
      clear hb 
      go_wp2_with fail
      refine (vInts_same G1 G2 gc1 gc2 c _ Ic.out Jc.out (by omega)).mono ?_
      rintro e w7 ⟨rfl, hb⟩
      replace S := Lib.hid (S.out.grow hb)
      replace HB := Lib.hid (btr HB.out hb)
      replace Cf := Lib.hid (Cf.out.grow hb)
      replace Ia := Lib.hid (Ia.out.grow hb)
      replace Ib := Lib.hid (Ib.out.grow hb)
      replace Ic := Lib.hid (Ic.out.grow hb)
      replace Ja := Lib.hid (Ja.out.grow hb)
      replace Jb := Lib.hid (Jb.out.grow hb)
      replace Jc := Lib.hid (Jc.out.grow hb)
      clear hb 
      clear Ja
      clear Jb
      clear Jc
      have c0 := S.out.cell (i := 0) rfl (o := 0) rfl
      have c1 := S.out.cell (i := 0) rfl (o := 1) rfl
      go_wp2_with fail
      refine (q3.out _ HB.out).mono ?_
      rintro e w8 ⟨Bg, cg, Fg, rfl, hR, hb⟩
      replace S := Lib.hid (S.out.grow hb)
      replace HB := Lib.hid (btr HB.out hb)
      replace Cf := Lib.hid (Cf.out.grow hb)
      replace Ia := Lib.hid (Ia.out.grow hb)
      replace Ib := Lib.hid (Ib.out.grow hb)
      replace Ic := Lib.hid (Ic.out.grow hb)
      clear hb c0 c1 q3
      replace hR := Lib.hid hR
      obtain ⟨b_g, hb_g⟩ : ∃ b, w8.heap.size = b := ⟨_, rfl⟩
      have T := S.out.alloc_box #[.int .i64 n, .slice Bg ys.length cg] 26
      rw [hb_g] at T
      replace HB := Lib.hid (bal HB.out (.cells #[.int .i64 n, .slice Bg ys.length cg] 26))
      replace Cf := Lib.hid (Cf.out.grow (bal (bb _) (.cells #[.int .i64 n, .slice Bg ys.length cg] 26)))
      replace Ia := Lib.hid (Ia.out.grow (bal (bb _) (.cells #[.int .i64 n, .slice Bg ys.length cg] 26)))
      replace Ib := Lib.hid (Ib.out.grow (bal (bb _) (.cells #[.int .i64 n, .slice Bg ys.length cg] 26)))
      replace Ic := Lib.hid (Ic.out.grow (bal (bb _) (.cells #[.int .i64 n, .slice Bg ys.length cg] 26)))
      replace hR := Lib.hid (Ty.row_grow hR.out (bal (bb _) (.cells #[.int .i64 n, .slice Bg ys.length cg] 26)))
      obtain ⟨w9, hw9⟩ : ∃ W, w8.alloc (.cells #[.int .i64 n, .slice Bg ys.length cg] 26) = W := ⟨_, rfl⟩
      replace S := Lib.hid T
      clear T
      rw [hw9] at S
      rw [hw9] at HB
      rw [hw9] at Cf
      rw [hw9] at Ia
      rw [hw9] at Ib
      rw [hw9] at Ic
      rw [hw9] at hR
      have c0 := S.out.cell (i := 1) rfl (o := 0) rfl
      have c1 := S.out.cell (i := 1) rfl (o := 1) rfl
      go_wp2_with fail
      refine (q4.out _ HB.out).mono ?_
      rintro e w10 ⟨Bw, cw, rfl, Cw, hb⟩
      replace S := Lib.hid (S.out.grow hb)
      replace HB := Lib.hid (btr HB.out hb)
      replace Cf := Lib.hid (Cf.out.grow hb)
      replace Ia := Lib.hid (Ia.out.grow hb)
      replace Ib := Lib.hid (Ib.out.grow hb)
      replace Ic := Lib.hid (Ic.out.grow hb)
      replace hR := Lib.hid (Ty.row_grow hR.out hb)
      clear hb c0 c1 q4
      replace Cw := Lib.hid Cw
      obtain ⟨b_w, hb_w⟩ : ∃ b, w10.heap.size = b := ⟨_, rfl⟩
      have T := S.out.alloc_box #[.int .i64 n, .slice Bw ys.length cw] 26
      rw [hb_w] at T
      replace HB := Lib.hid (bal HB.out (.cells #[.int .i64 n, .slice Bw ys.length cw] 26))
      replace Cf := Lib.hid (Cf.out.grow (bal (bb _) (.cells #[.int .i64 n, .slice Bw ys.length cw] 26)))
      replace Ia := Lib.hid (Ia.out.grow (bal (bb _) (.cells #[.int .i64 n, .slice Bw ys.length cw] 26)))
      replace Ib := Lib.hid (Ib.out.grow (bal (bb _) (.cells #[.int .i64 n, .slice Bw ys.length cw] 26)))
      replace Ic := Lib.hid (Ic.out.grow (bal (bb _) (.cells #[.int .i64 n, .slice Bw ys.length cw] 26)))
      replace hR := Lib.hid (Ty.row_grow hR.out (bal (bb _) (.cells #[.int .i64 n, .slice Bw ys.length cw] 26)))
      replace Cw := Lib.hid (Cw.out.grow (bal (bb _) (.cells #[.int .i64 n, .slice Bw ys.length cw] 26)))
      obtain ⟨w11, hw11⟩ : ∃ W, w10.alloc (.cells #[.int .i64 n, .slice Bw ys.length cw] 26) = W := ⟨_, rfl⟩
      replace S := Lib.hid T
      clear T
      rw [hw11] at S
      rw [hw11] at HB
      rw [hw11] at Cf
      rw [hw11] at Ia
      rw [hw11] at Ib
      rw [hw11] at Ic
      rw [hw11] at hR
      rw [hw11] at Cw
      obtain ⟨Ag, cg2, eg, Cg⟩ := cls_row hR.out
      cases eg
      replace Cg := Lib.hid Cg
      have c0 := S.out.cell (i := 1) rfl (o := 0) rfl
      have c1 := S.out.cell (i := 1) rfl (o := 1) rfl
      have d0 := S.out.cell (i := 0) rfl (o := 0) rfl
      have d1 := S.out.cell (i := 0) rfl (o := 1) rfl
      go_wp2_with fail
      refine (vCnf_same n Bg Bw cg cw ys _ Cg.out Cw.out hy1 hys.out).mono ?_
      rintro e w12 ⟨rfl, hb⟩
      replace S := Lib.hid (S.out.grow hb)
      replace HB := Lib.hid (btr HB.out hb)
      replace Cf := Lib.hid (Cf.out.grow hb)
      replace Ia := Lib.hid (Ia.out.grow hb)
      replace Ib := Lib.hid (Ib.out.grow hb)
      replace Ic := Lib.hid (Ic.out.grow hb)
      replace hR := Lib.hid (Ty.row_grow hR.out hb)
      replace Cw := Lib.hid (Cw.out.grow hb)
      replace Cg := Lib.hid (Cg.out.grow hb)
      clear hb c0 c1 d0 d1
      clear Cg Cw
      have c0 := S.out.cell (i := 1) rfl (o := 0) rfl
      have c1 := S.out.cell (i := 1) rfl (o := 1) rfl
      go_wp2_with fail
      refine (q6.out _ Bg cg Fg hR.out).mono ?_
      rintro e w13 ⟨D3, dc3, E3, ec3, G3, gc3, rfl, Ka, Kb, Kc, hb⟩
      replace S := Lib.hid (S.out.grow hb)
      replace HB := Lib.hid (btr HB.out hb)
      replace Cf := Lib.hid (Cf.out.grow hb)
      replace Ia := Lib.hid (Ia.out.grow hb)
      replace Ib := Lib.hid (Ib.out.grow hb)
      replace Ic := Lib.hid (Ic.out.grow hb)
      replace hR := Lib.hid (Ty.row_grow hR.out hb)
      clear hb c0 c1 q6
      replace Ka := Lib.hid Ka
      replace Kb := Lib.hid Kb
      replace Kc := Lib.hid Kc
      have c0 := S.out.cell (i := 2) rfl (o := 0) rfl
      have c1 := S.out.cell (i := 2) rfl (o := 1) rfl
      go_wp2_with fail
      refine (q5.out _ HB.out).mono ?_
      rintro e w14 ⟨Du, du, rfl, Iu, hb⟩
      replace S := Lib.hid (S.out.grow hb)
      replace HB := Lib.hid (btr HB.out hb)
      replace Cf := Lib.hid (Cf.out.grow hb)
      replace Ia := Lib.hid (Ia.out.grow hb)
      replace Ib := Lib.hid (Ib.out.grow hb)
      replace Ic := Lib.hid (Ic.out.grow hb)
      replace hR := Lib.hid (Ty.row_grow hR.out hb)
      replace Ka := Lib.hid (Ka.out.grow hb)
      replace Kb := Lib.hid (Kb.out.grow hb)
      replace Kc := Lib.hid (Kc.out.grow hb)
      clear hb c0 c1 q5
      clear Iu
      go_wp2_with fail
      refine (vInts_same D3 E1 dc3 ec1 b _ Ka.out Ib.out (by omega)).mono ?_
      rintro e w15 ⟨rfl, hb⟩
      replace S := Lib.hid (S.out.grow hb)
      replace HB := Lib.hid (btr HB.out hb)
      replace Cf := Lib.hid (Cf.out.grow hb)
      replace Ia := Lib.hid (Ia.out.grow hb)
      replace Ib := Lib.hid (Ib.out.grow hb)
      replace Ic := Lib.hid (Ic.out.grow hb)
      replace hR := Lib.hid (Ty.row_grow hR.out hb)
      replace Ka := Lib.hid (Ka.out.grow hb)
      replace Kb := Lib.hid (Kb.out.grow hb)
      replace Kc := Lib.hid (Kc.out.grow hb)
      clear hb 
      go_wp2_with fail
      refine (vInts_same E3 D1 ec3 dc1 a _ Kb.out Ia.out (by omega)).mono ?_
      rintro e w16 ⟨rfl, hb⟩
      replace S := Lib.hid (S.out.grow hb)
      replace HB := Lib.hid (btr HB.out hb)
      replace Cf := Lib.hid (Cf.out.grow hb)
      replace Ia := Lib.hid (Ia.out.grow hb)
      replace Ib := Lib.hid (Ib.out.grow hb)
      replace Ic := Lib.hid (Ic.out.grow hb)
      replace hR := Lib.hid (Ty.row_grow hR.out hb)
      replace Ka := Lib.hid (Ka.out.grow hb)
      replace Kb := Lib.hid (Kb.out.grow hb)
      replace Kc := Lib.hid (Kc.out.grow hb)
      clear hb 
      go_wp2_with fail
      refine (vInts_same G3 G1 gc3 gc1 c _ Kc.out Ic.out (by omega)).mono ?_
      rintro e w17 ⟨rfl, hb⟩
      replace S := Lib.hid (S.out.grow hb)
      replace HB := Lib.hid (btr HB.out hb)
      replace Cf := Lib.hid (Cf.out.grow hb)
      replace Ia := Lib.hid (Ia.out.grow hb)
      replace Ib := Lib.hid (Ib.out.grow hb)
      replace Ic := Lib.hid (Ic.out.grow hb)
      replace hR := Lib.hid (Ty.row_grow hR.out hb)
      replace Ka := Lib.hid (Ka.out.grow hb)
      replace Kb := Lib.hid (Kb.out.grow hb)
      replace Kc := Lib.hid (Kc.out.grow hb)
      clear hb 
      clear Ka
      clear Kb
      clear Kc
      clear Ia
      clear Ib
      clear Ic
      have c0 := S.out.cell (i := 1) rfl (o := 0) rfl
      have c1 := S.out.cell (i := 1) rfl (o := 1) rfl
      go_wp2_with fail
      refine (q7.out _ Bg cg Fg hR.out).mono ?_
      rintro e w18 ⟨Bk, ck, Fk, rfl, hRk, hb⟩
      replace S := Lib.hid (S.out.grow hb)
      replace HB := Lib.hid (btr HB.out hb)
      replace Cf := Lib.hid (Cf.out.grow hb)
      replace hR := Lib.hid (Ty.row_grow hR.out hb)
      clear hb c0 c1 q7
      replace hRk := Lib.hid hRk
      clear hR
      obtain ⟨b_k, hb_k⟩ : ∃ b, w18.heap.size = b := ⟨_, rfl⟩
      have T := S.out.alloc_box #[.int .i64 n, .slice Bk xss.length ck] 26
      rw [hb_k] at T
      replace HB := Lib.hid (bal HB.out (.cells #[.int .i64 n, .slice Bk xss.length ck] 26))
      replace Cf := Lib.hid (Cf.out.grow (bal (bb _) (.cells #[.int .i64 n, .slice Bk xss.length ck] 26)))
      replace hRk := Lib.hid (Ty.row_grow hRk.out (bal (bb _) (.cells #[.int .i64 n, .slice Bk xss.length ck] 26)))
      obtain ⟨w19, hw19⟩ : ∃ W, w18.alloc (.cells #[.int .i64 n, .slice Bk xss.length ck] 26) = W := ⟨_, rfl⟩
      replace S := Lib.hid T
      clear T
      rw [hw19] at S
      rw [hw19] at HB
      rw [hw19] at Cf
      rw [hw19] at hRk
      obtain ⟨Ak, ck2, ek, Ck⟩ := cls_row hRk.out
      cases ek
      replace Ck := Lib.hid Ck
      have c0 := S.out.cell (i := 0) rfl (o := 0) rfl
      have c1 := S.out.cell (i := 0) rfl (o := 1) rfl
      have d0 := S.out.cell (i := 3) rfl (o := 0) rfl
      have d1 := S.out.cell (i := 3) rfl (o := 1) rfl
      go_wp2_with fail
      refine (vCnf_same n Bk B ck cap xss _ Ck.out Cf.out hx1 hxs.out).mono ?_
      rintro e w20 ⟨rfl, hb⟩
      replace S := Lib.hid (S.out.grow hb)
      replace HB := Lib.hid (btr HB.out hb)
      replace Cf := Lib.hid (Cf.out.grow hb)
      replace hRk := Lib.hid (Ty.row_grow hRk.out hb)
      replace Ck := Lib.hid (Ck.out.grow hb)
      clear hb c0 c1 d0 d1
      have hB := Lib.hid S.out.below
      clear S HB hRk Ck Cf
      go_wp2_with fail
      go_ret
      exact ⟨rfl, hB.out⟩
end Go.Proofs.Ytmikconjhmhekaa
