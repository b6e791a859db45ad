/- Lemmas and contracts for a law, put together out of several texts: WalkCounting. -/
import Derived.Test.YtahbepajeplcmaaGreatMg13
import Derived.Deep.DeepCutAuto
/- The walk of FnCounting. Printed by gen_walkcounting.py. -/
namespace Go.Proofs.YtahbepajeplcmaaGreat
open Go.RowKit

theorem vBigC_any (ca : Option Addr) (cl cc : Nat) (w : World) : Calls Tryz.prog 4 #[.slice ca cl cc] w fun e w' => e = .returned (.bool (decide ((65536 : Int) < (cl : Int)))) ∧ w' = w := by
  go_enter Tryz.func4, Tryz.ntmps4
  go_wp2_with fail
  go_ret
  exact ⟨rfl, rfl⟩

set_option maxRecDepth 100000 in
set_option maxHeartbeats 16000000 in
theorem FnCounting_walk (ca : Option Addr) (cl cc : Nat) (w : World) (hc : CodeOk w ca cl) :
    Calls Tryz.prog 3 #[.slice ca cl cc] w fun e w' => e = .returned (.bool true) ∧ Below w.heap.size w w' := by
  have hcH := Lib.hid hc
  clear hc
  by_cases hbig : (65536 : Int) < (cl : Int)
  · go_enter Tryz.func3, Tryz.ntmps3
    go_wp2_with fail
    refine (vBigC_any _ _ _ _).mono ?_
    rintro e w1 ⟨rfl, rfl⟩
    rw [decide_eq_true hbig]
    go_wp2_with fail
    go_ret
    exact ⟨rfl, bb _⟩
  have hsm : cl ≤ 65536 := by omega
  have hv := Lib.hid (decide_eq_false hbig)
  clear hbig
  go_enter Tryz.func3, Tryz.ntmps3
  go_wp2_with fail
  refine (vBigC_any _ _ _ _).mono ?_
  rintro e w1 ⟨rfl, rfl⟩
  rw [hv.out]
  clear hv
  go_wp2_with fail
  refine (drawAtMost_any ca cl cc _ hcH.out hsm).mono ?_
  rintro e w2 ⟨n, k, rfl, hn0, hn1, hk0, hk1, hb⟩
  have S := Lib.hid (Sp.of_below hb)
  clear hb
  obtain ⟨va, ys, ok, vb, zs, fine, q1, q2, q3, q4, g1, g2, hyes⟩ := most_gen n k
  replace q1 := Lib.hid q1
  replace q2 := Lib.hid q2
  replace q3 := Lib.hid q3
  replace q4 := Lib.hid q4
  replace g1 := Lib.hid g1
  replace g2 := Lib.hid g2
  replace hyes := Lib.hid hyes
  have e1 : (ok != ok) = false := by cases ok <;> rfl
  have e2 : (fine != fine) = false := by cases fine <;> rfl
  go_wp2_with fail
  refine (q1.out _).mono ?_
  rintro e w3 ⟨B1, p1, F1, rfl, R1, hb⟩
  replace S := Lib.hid (S.out.grow hb)
  clear hb q1
  replace R1 := Lib.hid R1
  obtain ⟨b1, hb1⟩ : ∃ b, w3.heap.size = b := ⟨_, rfl⟩
  have T := S.out.alloc_box #[.int .i64 va, .slice B1 ys.length p1] 28
  rw [hb1] at T
  replace R1 := Lib.hid (Ty.row_grow R1.out (bal (bb _) (.cells #[.int .i64 va, .slice B1 ys.length p1] 28)))
  obtain ⟨w4, hw4⟩ : ∃ W, w3.alloc (.cells #[.int .i64 va, .slice B1 ys.length p1] 28) = W := ⟨_, rfl⟩
  replace S := Lib.hid T
  clear T
  rw [hw4] at S
  rw [hw4] at R1
  go_wp2_with fail
  refine (q2.out _).mono ?_
  rintro e w5 ⟨B2, p2, F2, rfl, R2, hb⟩
  replace S := Lib.hid (S.out.grow hb)
  replace R1 := Lib.hid (Ty.row_grow R1.out hb)
  clear hb q2
  replace R2 := Lib.hid R2
  obtain ⟨b2, hb2⟩ : ∃ b, w5.heap.size = b := ⟨_, rfl⟩
  have T := S.out.alloc_box #[.int .i64 va, .slice B2 ys.length p2] 28
  rw [hb2] at T
  replace R1 := Lib.hid (Ty.row_grow R1.out (bal (bb _) (.cells #[.int .i64 va, .slice B2 ys.length p2] 28)))
  replace R2 := Lib.hid (Ty.row_grow R2.out (bal (bb _) (.cells #[.int .i64 va, .slice B2 ys.length p2] 28)))
  obtain ⟨w6, hw6⟩ : ∃ W, w5.alloc (.cells #[.int .i64 va, .slice B2 ys.length p2] 28) = W := ⟨_, rfl⟩
  replace S := Lib.hid T
  clear T
  rw [hw6] at S
  rw [hw6] at R1
  rw [hw6] at R2
  have y1 := Lib.hid (vCnfX_any va B1 B2 p1 p2 ys F1 F2 w6 R1.out R2.out g1.out)
  clear R2
  have c0 := S.out.cell (i := 1) rfl (o := 0) rfl
  have c1 := S.out.cell (i := 1) rfl (o := 1) rfl
  have d0 := S.out.cell (i := 0) rfl (o := 0) rfl
  have d1 := S.out.cell (i := 0) rfl (o := 1) rfl
  go_wp2_with fail
  refine (y1.out).mono ?_
  rintro e w7 ⟨rfl, hb⟩
  replace S := Lib.hid (S.out.grow hb)
  replace R1 := Lib.hid (Ty.row_grow R1.out hb)
  clear hb c0 c1 d0 d1 y1 e1
  go_wp2_with fail
  refine (q3.out _).mono ?_
  rintro e w8 ⟨B3, p3, F3, rfl, R3, hb⟩
  replace S := Lib.hid (S.out.grow hb)
  replace R1 := Lib.hid (Ty.row_grow R1.out hb)
  clear hb q3
  replace R3 := Lib.hid R3
  obtain ⟨b3, hb3⟩ : ∃ b, w8.heap.size = b := ⟨_, rfl⟩
  have T := S.out.alloc_box #[.int .i64 vb, .slice B3 zs.length p3] 28
  rw [hb3] at T
  replace R1 := Lib.hid (Ty.row_grow R1.out (bal (bb _) (.cells #[.int .i64 vb, .slice B3 zs.length p3] 28)))
  replace R3 := Lib.hid (Ty.row_grow R3.out (bal (bb _) (.cells #[.int .i64 vb, .slice B3 zs.length p3] 28)))
  obtain ⟨w9, hw9⟩ : ∃ W, w8.alloc (.cells #[.int .i64 vb, .slice B3 zs.length p3] 28) = W := ⟨_, rfl⟩
  replace S := Lib.hid T
  clear T
  rw [hw9] at S
  rw [hw9] at R1
  rw [hw9] at R3
  go_wp2_with fail
  refine (q4.out _).mono ?_
  rintro e w10 ⟨B4, p4, F4, rfl, R4, hb⟩
  replace S := Lib.hid (S.out.grow hb)
  replace R1 := Lib.hid (Ty.row_grow R1.out hb)
  replace R3 := Lib.hid (Ty.row_grow R3.out hb)
  clear hb q4
  replace R4 := Lib.hid R4
  obtain ⟨b4, hb4⟩ : ∃ b, w10.heap.size = b := ⟨_, rfl⟩
  have T := S.out.alloc_box #[.int .i64 vb, .slice B4 zs.length p4] 28
  rw [hb4] at T
  replace R1 := Lib.hid (Ty.row_grow R1.out (bal (bb _) (.cells #[.int .i64 vb, .slice B4 zs.length p4] 28)))
  replace R3 := Lib.hid (Ty.row_grow R3.out (bal (bb _) (.cells #[.int .i64 vb, .slice B4 zs.length p4] 28)))
  replace R4 := Lib.hid (Ty.row_grow R4.out (bal (bb _) (.cells #[.int .i64 vb, .slice B4 zs.length p4] 28)))
  obtain ⟨w11, hw11⟩ : ∃ W, w10.alloc (.cells #[.int .i64 vb, .slice B4 zs.length p4] 28) = W := ⟨_, rfl⟩
  replace S := Lib.hid T
  clear T
  rw [hw11] at S
  rw [hw11] at R1
  rw [hw11] at R3
  rw [hw11] at R4
  have y2 := Lib.hid (vCnfX_any vb B3 B4 p3 p4 zs F3 F4 w11 R3.out R4.out g2.out)
  clear R4
  have c0 := S.out.cell (i := 1) rfl (o := 0) rfl
  have c1 := S.out.cell (i := 1) rfl (o := 1) rfl
  have d0 := S.out.cell (i := 0) rfl (o := 0) rfl
  have d1 := S.out.cell (i := 0) rfl (o := 1) rfl
  go_wp2_with fail
  refine (y2.out).mono ?_
  rintro e w12 ⟨rfl, hb⟩
  replace S := Lib.hid (S.out.grow hb)
  replace R1 := Lib.hid (Ty.row_grow R1.out hb)
  replace R3 := Lib.hid (Ty.row_grow R3.out hb)
  clear hb c0 c1 d0 d1 y2 e2
  go_upto_region 12 with fail
  go_cut [100] (fun v wx => v = .bool (ok && fine) ∧ w12 = wx)
  case first =>
    cases ok <;> cases fine
    all_goals
      go_wp2_with fail
      go_meet
      exact ⟨rfl, rfl⟩
  case rest =>
  obtain ⟨rfl, rfl⟩ := hcut
  obtain ⟨qb, hqb⟩ : ∃ qb, (ok && fine) = qb := ⟨_, rfl⟩
  rw [hqb]
  replace hqb := Lib.hid hqb
  go_upto_if 100 with fail
  go_cut [] (fun wx => Hid (Below w1.heap.size w1 wx))
  case first =>
    as_aux_lemma =>
      cases qb
      · have hB := Lib.hid S.out.below
        clear S R1 R3 hyes hqb
        go_wp2_with fail
        go_meet
        exact hB
      have hqc := hqb.out
      rw [Bool.and_eq_true] at hqc
      obtain ⟨rfl, rfl⟩ := hqc
      clear hqb
      obtain ⟨N, K, rfl, rfl, hN, hK, rfl, rfl, hys, hzs⟩ := hyes.out rfl rfl
      clear hyes
      have hcnt := both_count (hys ▸ g1.out) (hzs ▸ g2.out)
      rw [← hys, ← hzs] at hcnt
      replace hcnt := Lib.hid hcnt
      obtain ⟨vc, ls, ok, t1, -, gc, hbo⟩ := both_gen N N B1 B3 p1 p3 ys zs
      have t2 := Lib.hid (t1 F1 F3 w12 R1.out R3.out)
      replace gc := Lib.hid gc
      replace hbo := Lib.hid hbo
      clear t1 hys hzs R1 R3 g1 g2
      have c0 := S.out.cell (i := 3) rfl (o := 0) rfl
      have c1 := S.out.cell (i := 3) rfl (o := 1) rfl
      have d0 := S.out.cell (i := 1) rfl (o := 0) rfl
      have d1 := S.out.cell (i := 1) rfl (o := 1) rfl
      go_wp2_with fail
      refine (t2.out).mono ?_
      rintro e w13 ⟨B5, p5, F5, rfl, R5, hb⟩
      replace S := Lib.hid (S.out.grow hb)
      clear hb c0 c1 d0 d1 t2
      replace R5 := Lib.hid R5
      obtain ⟨b5, hb5⟩ : ∃ b, w13.heap.size = b := ⟨_, rfl⟩
      have T := S.out.alloc_box #[.int .i64 vc, .slice B5 ls.length p5] 28
      rw [hb5] at T
      replace R5 := Lib.hid (Ty.row_grow R5.out (bal (bb _) (.cells #[.int .i64 vc, .slice B5 ls.length p5] 28)))
      obtain ⟨w14, hw14⟩ : ∃ W, w13.alloc (.cells #[.int .i64 vc, .slice B5 ls.length p5] 28) = W := ⟨_, rfl⟩
      replace S := Lib.hid T
      clear T
      rw [hw14] at S
      rw [hw14] at R5
      have t3 := Lib.hid (cnt_any vc _ ls F5 w14 R5.out gc.out)
      have hcs := cnt_small gc.out
      obtain ⟨ct, hct⟩ : ∃ ct, cntP (modT ls) (2 ^ vc.toNat) = ct := ⟨_, rfl⟩
      rw [hct] at t3 hcs
      replace hct := Lib.hid hct
      clear R5
      have c0 := S.out.cell (i := 0) rfl (o := 0) rfl
      have c1 := S.out.cell (i := 0) rfl (o := 1) rfl
      go_wp2_with fail
      refine (t3.out).mono ?_
      rintro e w15 ⟨rfl, hb⟩
      replace S := Lib.hid (S.out.grow hb)
      clear hb c0 c1 t3
      have hB := Lib.hid S.out.below
      clear S gc
      have hres : Hid (ok = true → (ct : Int) = if K ≤ N then chsI N K else 0) := fun h => by
        obtain ⟨h1, h2⟩ := hbo.out h
        have h3 := hct.out
        rw [h1, h2, show (max (N : Int) N).toNat = N by omega, hcnt.out] at h3
        rw [← h3]
        by_cases hkn : K ≤ N
        · rw [if_pos hkn]; exact (chs_bin N hN K hK hkn).symm
        · rw [if_neg hkn, bin_over N K (by omega)]; rfl
      clear hbo hct hcnt
      go_wp2_with fail
      go_loopw [17, 18] (fun v17 v18 wr => ∃ (i : Nat) (z : Int), i ≤ K ∧ v18 = .int .i64 i ∧ v17 = .int .i64 z ∧ Hid (z = chsI N i) ∧ -100000 ≤ z ∧ z ≤ 100000 ∧ wr = w15) (fun _ v18 _ => K - (intOf v18).toNat)
      case atStart => exact ⟨0, 1, Nat.zero_le _, rfl, rfl, rfl, by decide, by decide, rfl⟩
      case round =>
        obtain ⟨i, z, hi, rfl, rfl, hz, hz0, hz1, rfl⟩ := hrel
        by_cases hlt : i < K
        · have hst := chs_step N hN i (by omega)
          rw [← hz.out] at hst
          have hsm2 := chs_small N hN (i + 1) (by omega)
          obtain ⟨y, hy⟩ : ∃ y, chsI (N : Int) (i + 1) = y := ⟨_, rfl⟩
          rw [hy] at hsm2
          have hy2 : y = (z * ((N : Int) - i)).tdiv ((i : Int) + 1) := by rw [← hy, hz.out]; rfl
          have hq1 : IntKind.i64.wrap ((N : Int) - i) = (N : Int) - i := IntWalk.i64_in _ (by omega)
          obtain ⟨pr, hpr⟩ : ∃ pr, z * ((N : Int) - i) = pr := ⟨_, rfl⟩
          rw [hpr] at hst hy2
          have hq2 : IntKind.i64.wrap pr = pr := IntWalk.i64_in _ (by omega)
          rw [← hpr] at hq2
          have hq3 : IntKind.i64.wrap ((i : Int) + 1) = ((i + 1 : Nat) : Int) := by rw [IntWalk.i64_in _ (by omega)]; rfl
          have hyd : Hid (y = pr / ((i : Int) + 1)) := by unfold Hid; rw [hy2, Int.tdiv_eq_ediv_of_nonneg hst.1]
          have hz2 : Hid (y = chsI N (i + 1)) := hy.symm
          rw [hpr] at hq2
          have hq4 : IntKind.i64.wrap (z * ((N : Int) - i)) = pr := by rw [hpr]; exact hq2
          obtain ⟨hp0, hp1⟩ := hst
          obtain ⟨hy0, hy1⟩ := hsm2
          clear hy hy2 hpr hq2 hz
          go_wp2_with fail
          go_roundw
          case rel => exact ⟨i + 1, y, by omega, by first | rfl | go_num, by rw [hyd.out], hz2, hy0, hy1, by trivial⟩
          case measure => simp [intOf]; omega
        · obtain rfl : i = K := by omega
          cases ok
          · clear hres hz
            by_cases hkn : N < i
            all_goals
              go_wp2_with fail
              go_meet
              exact hB
          · have hr := hres.out rfl
            by_cases hkn : N < i
            · rw [if_neg (by omega)] at hr
              have hne : ((ct : Int) != 0) = false := by rw [hr]; rfl
              clear hres hz hr
              go_wp2_with fail
              go_meet
              exact hB
            · rw [if_pos (by omega), ← hz.out] at hr
              have hne : ((ct : Int) != z) = false := by rw [hr]; simp
              clear hres hz hr
              go_wp2_with fail
              go_meet
              exact hB
  case rest => as_aux_lemma =>
  have HB1 := hcut
  clear hcut S R1 R3 hyes g1 g2 hn0 hn1 hk0 hk1 hqb
  go_wp2_with fail
  refine (drawXor_any ca cl cc _ (hcH.out.grow HB1.out) hsm).mono ?_
  rintro e w40 ⟨vars, B1, p1, L, odd, rfl, hv0, hv1, hLl, hLI, T⟩
  have S := Lib.hid (Sp.of_below (btr HB1.out T.below))
  obtain ⟨F0, hr0, -, -⟩ := Ty.row_of_owns (T.own (i := 0) rfl) rfl (by decide) (Ty.all_int hLI)
  have R0 := Lib.hid (Ty.row_down hr0)
  clear T HB1 hr0 hLI
  obtain ⟨va, ys, ok, vb, zs, ok2, q1, q2, q3, g1, g2, hyes⟩ := xor_gen vars L odd B1 p1 (by omega)
  replace q1 := Lib.hid q1
  replace q2 := Lib.hid q2
  replace q3 := Lib.hid q3
  replace g1 := Lib.hid g1
  replace g2 := Lib.hid g2
  replace hyes := Lib.hid hyes
  have e1 : (ok != ok) = false := by cases ok <;> rfl
  go_wp2_with fail
  refine (q1.out F0 _ R0.out).mono ?_
  rintro e w41 ⟨B2, p2, F2, rfl, R2, hb⟩
  replace S := Lib.hid (S.out.grow hb)
  replace R0 := Lib.hid (Ty.row_grow R0.out hb)
  clear hb q1
  replace R2 := Lib.hid R2
  obtain ⟨b2, hb2⟩ : ∃ b, w41.heap.size = b := ⟨_, rfl⟩
  have T := S.out.alloc_box #[.int .i64 va, .slice B2 ys.length p2] 28
  rw [hb2] at T
  replace R0 := Lib.hid (Ty.row_grow R0.out (bal (bb _) (.cells #[.int .i64 va, .slice B2 ys.length p2] 28)))
  replace R2 := Lib.hid (Ty.row_grow R2.out (bal (bb _) (.cells #[.int .i64 va, .slice B2 ys.length p2] 28)))
  obtain ⟨w42, hw42⟩ : ∃ W, w41.alloc (.cells #[.int .i64 va, .slice B2 ys.length p2] 28) = W := ⟨_, rfl⟩
  replace S := Lib.hid T
  clear T
  rw [hw42] at S
  rw [hw42] at R0
  rw [hw42] at R2
  go_wp2_with fail
  refine (q2.out F0 _ R0.out).mono ?_
  rintro e w43 ⟨B3, p3, F3, rfl, R3, hb⟩
  replace S := Lib.hid (S.out.grow hb)
  replace R0 := Lib.hid (Ty.row_grow R0.out hb)
  replace R2 := Lib.hid (Ty.row_grow R2.out hb)
  clear hb q2
  replace R3 := Lib.hid R3
  obtain ⟨b3, hb3⟩ : ∃ b, w43.heap.size = b := ⟨_, rfl⟩
  have T := S.out.alloc_box #[.int .i64 va, .slice B3 ys.length p3] 28
  rw [hb3] at T
  replace R0 := Lib.hid (Ty.row_grow R0.out (bal (bb _) (.cells #[.int .i64 va, .slice B3 ys.length p3] 28)))
  replace R2 := Lib.hid (Ty.row_grow R2.out (bal (bb _) (.cells #[.int .i64 va, .slice B3 ys.length p3] 28)))
  replace R3 := Lib.hid (Ty.row_grow R3.out (bal (bb _) (.cells #[.int .i64 va, .slice B3 ys.length p3] 28)))
  obtain ⟨w44, hw44⟩ : ∃ W, w43.alloc (.cells #[.int .i64 va, .slice B3 ys.length p3] 28) = W := ⟨_, rfl⟩
  replace S := Lib.hid T
  clear T
  rw [hw44] at S
  rw [hw44] at R0
  rw [hw44] at R2
  rw [hw44] at R3
  have y1 := Lib.hid (vCnfX_any va B2 B3 p2 p3 ys F2 F3 w44 R2.out R3.out g1.out)
  clear R3
  have c0 := S.out.cell (i := 1) rfl (o := 0) rfl
  have c1 := S.out.cell (i := 1) rfl (o := 1) rfl
  have d0 := S.out.cell (i := 0) rfl (o := 0) rfl
  have d1 := S.out.cell (i := 0) rfl (o := 1) rfl
  go_wp2_with fail
  refine (y1.out).mono ?_
  rintro e w45 ⟨rfl, hb⟩
  replace S := Lib.hid (S.out.grow hb)
  replace R0 := Lib.hid (Ty.row_grow R0.out hb)
  replace R2 := Lib.hid (Ty.row_grow R2.out hb)
  clear hb c0 c1 d0 d1 y1 e1
  go_upto_region 29 with fail
  go_cut [171] (fun v wx => v = .bool (ok && decide (0 < L.length)) ∧ w45 = wx)
  case first =>
    cases ok
    · go_wp2_with fail
      go_meet
      exact ⟨rfl, rfl⟩
    · go_wp2_with fail
      go_meet
      exact ⟨rfl, rfl⟩
  case rest =>
  obtain ⟨rfl, rfl⟩ := hcut
  obtain ⟨qb, hqb⟩ : ∃ qb, (ok && decide (0 < L.length)) = qb := ⟨_, rfl⟩
  rw [hqb]
  replace hqb := Lib.hid hqb
  go_upto_if 171 with fail
  go_cut [] (fun wx => Hid (Below w1.heap.size w1 wx))
  case first =>
    as_aux_lemma =>
      cases qb
      · have hB := Lib.hid S.out.below
        clear S R0 R2 hyes hqb q3
        go_wp2_with fail
        go_meet
        exact hB
      have hqc := hqb.out
      rw [Bool.and_eq_true] at hqc
      obtain ⟨rfl, hne⟩ := hqc
      obtain ⟨hok, N, rfl, hN, hc1, hc2⟩ := hyes.out rfl (by rintro rfl; simp at hne)
      subst hok
      clear hqb hyes hne
      go_wp2_with fail
      refine (q3.out F0 _ R0.out).mono ?_
      rintro e w46 ⟨B5, p5, F5, rfl, R5, hb⟩
      replace S := Lib.hid (S.out.grow hb)
      replace R0 := Lib.hid (Ty.row_grow R0.out hb)
      replace R2 := Lib.hid (Ty.row_grow R2.out hb)
      clear hb q3
      replace R5 := Lib.hid R5
      obtain ⟨b5, hb5⟩ : ∃ b, w46.heap.size = b := ⟨_, rfl⟩
      have T := S.out.alloc_box #[.int .i64 vb, .slice B5 zs.length p5] 28
      rw [hb5] at T
      replace R0 := Lib.hid (Ty.row_grow R0.out (bal (bb _) (.cells #[.int .i64 vb, .slice B5 zs.length p5] 28)))
      replace R2 := Lib.hid (Ty.row_grow R2.out (bal (bb _) (.cells #[.int .i64 vb, .slice B5 zs.length p5] 28)))
      replace R5 := Lib.hid (Ty.row_grow R5.out (bal (bb _) (.cells #[.int .i64 vb, .slice B5 zs.length p5] 28)))
      obtain ⟨w47, hw47⟩ : ∃ W, w46.alloc (.cells #[.int .i64 vb, .slice B5 zs.length p5] 28) = W := ⟨_, rfl⟩
      replace S := Lib.hid T
      clear T
      rw [hw47] at S
      rw [hw47] at R0
      rw [hw47] at R2
      rw [hw47] at R5
      have t3 := Lib.hid (fun W (h : Below w47.heap.size w47 W) => cnt_any va _ ys F2 W (Ty.row_grow R2.out h) g1.out)
      have t4 := Lib.hid (fun W (h : Below w47.heap.size w47 W) => cnt_any vb _ zs F5 W (Ty.row_grow R5.out h) g2.out)
      have HB := Lib.hid (bb w47)
      have hcs := cnt_small g1.out
      obtain ⟨m, hm⟩ : ∃ m, cntP (modT ys) (2 ^ va.toNat) = m := ⟨_, rfl⟩
      have hm2 : cntP (modT zs) (2 ^ vb.toNat) = m := by omega
      rw [hm2] at t4
      rw [hm] at t3 hc1 hcs
      obtain ⟨hsh, hpw⟩ := pow12 hN
      obtain ⟨N2, hN2⟩ : ∃ N2, 2 ^ N = N2 := ⟨_, rfl⟩
      rw [hN2] at hsh hpw hc1
      have hw1 : IntKind.i64.wrap ((m : Int) + m) = (m : Int) + m := IntWalk.i64_in _ (by omega)
      have hne1 : ((m : Int) != (m : Int)) = false := by simp
      have hne2 : ((m : Int) + m != (N2 : Int)) = false := by rw [show (m : Int) + m = (N2 : Int) by omega]; simp
      replace hm := Lib.hid hm
      clear hc1 hc2 hm hm2 hN2 R0 R2 R5 g1 g2
      have c0 := S.out.cell (i := 2) rfl (o := 0) rfl
      have c1 := S.out.cell (i := 2) rfl (o := 1) rfl
      go_wp2_with fail
      refine (t3.out _ HB.out).mono ?_
      rintro e w48 ⟨rfl, hb⟩
      replace S := Lib.hid (S.out.grow hb)
      replace HB := Lib.hid (btr HB.out hb)
      clear hb c0 c1 t3
      have c0 := S.out.cell (i := 0) rfl (o := 0) rfl
      have c1 := S.out.cell (i := 0) rfl (o := 1) rfl
      go_wp2_with fail
      refine (t4.out _ HB.out).mono ?_
      rintro e w49 ⟨rfl, hb⟩
      replace S := Lib.hid (S.out.grow hb)
      replace HB := Lib.hid (btr HB.out hb)
      clear hb c0 c1 t4
      have hB := Lib.hid S.out.below
      clear S HB
      go_wp2_with fail
      go_meet
      exact hB
  case rest => as_aux_lemma =>
  have HB1 := hcut
  clear hcut S R0 R2 hyes g1 g2 hv0 hv1 hLl hqb q3
  go_wp2_with fail
  refine (drawApart_any ca cl cc _ (hcH.out.grow HB1.out) hsm).mono ?_
  rintro e w60 ⟨va, vb, B1, B2, p1, p2, cs1, cs2, xss, yss, rfl, hl1, hl2, T⟩
  have S := Lib.hid (Sp.of_below (btr HB1.out T.below))
  obtain ⟨F2, hr2, -⟩ := T.rows_done (i := 0) rfl
  obtain ⟨F1, hr1, -⟩ := T.rows_done (i := 1) rfl
  have R1 := Lib.hid (Ty.row_down hr1)
  have R2 := Lib.hid (Ty.row_down hr2)
  clear T HB1 hr1 hr2 hcH
  obtain ⟨vc, zs, ok, q1, q2, g1, hyes⟩ := apart_gen va vb B1 B2 p1 p2 xss yss
  obtain ⟨vd, us, some, q3, q4, g2, -⟩ := both_gen va vb B1 B2 p1 p2 xss yss
  replace q1 := Lib.hid q1
  replace q2 := Lib.hid q2
  replace q3 := Lib.hid q3
  replace q4 := Lib.hid q4
  replace g1 := Lib.hid g1
  replace g2 := Lib.hid g2
  replace hyes := Lib.hid hyes
  have e1 : (ok != ok) = false := by cases ok <;> rfl
  have T := (S.out.alloc_box #[.int .i64 va, .slice B1 xss.length p1] 28).alloc_box #[.int .i64 vb, .slice B2 yss.length p2] 28
  simp only [World.size_alloc] at T
  have hb12 := bal (bal (bb w60) (.cells #[.int .i64 va, .slice B1 xss.length p1] 28)) (.cells #[.int .i64 vb, .slice B2 yss.length p2] 28)
  replace R1 := Lib.hid (Ty.row_grow R1.out hb12)
  replace R2 := Lib.hid (Ty.row_grow R2.out hb12)
  have c0 := T.cell (i := 1) rfl (o := 0) rfl
  have c1 := T.cell (i := 1) rfl (o := 1) rfl
  have d0 := T.cell (i := 0) rfl (o := 0) rfl
  have d1 := T.cell (i := 0) rfl (o := 1) rfl
  have t1 := q1.out F1 F2 _ R1.out R2.out
  replace S := Lib.hid T
  replace t1 := Lib.hid t1
  clear T hb12 q1
  go_wp2_with fail
  refine t1.out.mono ?_
  rintro e w63 ⟨B3, p3, F3, rfl, R3, hb⟩
  replace S := Lib.hid (S.out.grow hb)
  replace R1 := Lib.hid (Ty.row_grow R1.out hb)
  replace R2 := Lib.hid (Ty.row_grow R2.out hb)
  replace R3 := Lib.hid R3
  obtain ⟨b1, hb1⟩ : ∃ b, w60.heap.size = b := ⟨_, rfl⟩
  obtain ⟨b2, hb2⟩ : ∃ b, b1 + 1 = b := ⟨_, rfl⟩
  have S5 := S.out
  rw [hb1, hb2] at S5
  rw [hb1, hb2]
  replace S := Lib.hid S5
  clear hb c0 c1 d0 d1 t1 S5 hb1 hb2
  obtain ⟨b3, hb3⟩ : ∃ b, w63.heap.size = b := ⟨_, rfl⟩
  have T := S.out.alloc_box #[.int .i64 vc, .slice B3 zs.length p3] 28
  rw [hb3] at T
  replace R1 := Lib.hid (Ty.row_grow R1.out (bal (bb _) (.cells #[.int .i64 vc, .slice B3 zs.length p3] 28)))
  replace R2 := Lib.hid (Ty.row_grow R2.out (bal (bb _) (.cells #[.int .i64 vc, .slice B3 zs.length p3] 28)))
  replace R3 := Lib.hid (Ty.row_grow R3.out (bal (bb _) (.cells #[.int .i64 vc, .slice B3 zs.length p3] 28)))
  obtain ⟨w64, hw64⟩ : ∃ W, w63.alloc (.cells #[.int .i64 vc, .slice B3 zs.length p3] 28) = W := ⟨_, rfl⟩
  replace S := Lib.hid T
  clear T
  rw [hw64] at S
  rw [hw64] at R1
  rw [hw64] at R2
  rw [hw64] at R3
  have c0 := S.out.cell (i := 2) rfl (o := 0) rfl
  have c1 := S.out.cell (i := 2) rfl (o := 1) rfl
  have d0 := S.out.cell (i := 1) rfl (o := 0) rfl
  have d1 := S.out.cell (i := 1) rfl (o := 1) rfl
  go_wp2_with fail
  refine (q2.out F1 F2 _ R1.out R2.out).mono ?_
  rintro e w65 ⟨B4, p4, F4, rfl, R4, hb⟩
  replace S := Lib.hid (S.out.grow hb)
  replace R1 := Lib.hid (Ty.row_grow R1.out hb)
  replace R2 := Lib.hid (Ty.row_grow R2.out hb)
  replace R3 := Lib.hid (Ty.row_grow R3.out hb)
  clear hb c0 c1 d0 d1 q2
  replace R4 := Lib.hid R4
  obtain ⟨b4, hb4⟩ : ∃ b, w65.heap.size = b := ⟨_, rfl⟩
  have T := S.out.alloc_box #[.int .i64 vc, .slice B4 zs.length p4] 28
  rw [hb4] at T
  replace R1 := Lib.hid (Ty.row_grow R1.out (bal (bb _) (.cells #[.int .i64 vc, .slice B4 zs.length p4] 28)))
  replace R2 := Lib.hid (Ty.row_grow R2.out (bal (bb _) (.cells #[.int .i64 vc, .slice B4 zs.length p4] 28)))
  replace R3 := Lib.hid (Ty.row_grow R3.out (bal (bb _) (.cells #[.int .i64 vc, .slice B4 zs.length p4] 28)))
  replace R4 := Lib.hid (Ty.row_grow R4.out (bal (bb _) (.cells #[.int .i64 vc, .slice B4 zs.length p4] 28)))
  obtain ⟨w66, hw66⟩ : ∃ W, w65.alloc (.cells #[.int .i64 vc, .slice B4 zs.length p4] 28) = W := ⟨_, rfl⟩
  replace S := Lib.hid T
  clear T
  rw [hw66] at S
  rw [hw66] at R1
  rw [hw66] at R2
  rw [hw66] at R3
  rw [hw66] at R4
  have y1 := Lib.hid (vCnfX_any vc B3 B4 p3 p4 zs F3 F4 w66 R3.out R4.out g1.out)
  clear R4
  have c0 := S.out.cell (i := 1) rfl (o := 0) rfl
  have c1 := S.out.cell (i := 1) rfl (o := 1) rfl
  have d0 := S.out.cell (i := 0) rfl (o := 0) rfl
  have d1 := S.out.cell (i := 0) rfl (o := 1) rfl
  go_wp2_with fail
  refine (y1.out).mono ?_
  rintro e w67 ⟨rfl, hb⟩
  replace S := Lib.hid (S.out.grow hb)
  replace R1 := Lib.hid (Ty.row_grow R1.out hb)
  replace R2 := Lib.hid (Ty.row_grow R2.out hb)
  replace R3 := Lib.hid (Ty.row_grow R3.out hb)
  clear hb c0 c1 d0 d1 y1 e1
  have HW := Lib.hid (bb w67)
  go_upto_if 237 with fail
  go_cut [] (fun wx => Hid (Below w67.heap.size w67 wx))
  case first =>
    as_aux_lemma =>
      cases ok
      · clear S R1 R2 R3 hyes q3 q4
        go_wp2_with fail
        go_meet
        exact HW
      obtain ⟨k1, k2, hk⟩ := hyes.out rfl
      have t3 := Lib.hid (fun W (h : Below w67.heap.size w67 W) => cnt_any va _ xss F1 W (Ty.row_grow R1.out h) k1)
      have t4 := Lib.hid (fun W (h : Below w67.heap.size w67 W) => cnt_any vb _ yss F2 W (Ty.row_grow R2.out h) k2)
      have t5 := Lib.hid (fun W (h : Below w67.heap.size w67 W) => cnt_any vc _ zs F3 W (Ty.row_grow R3.out h) g1.out)
      have s1 := cnt_small k1
      have s2 := cnt_small k2
      obtain ⟨x, hx⟩ : ∃ x, cntP (modT xss) (2 ^ va.toNat) = x := ⟨_, rfl⟩
      obtain ⟨y, hy⟩ : ∃ y, cntP (modT yss) (2 ^ vb.toNat) = y := ⟨_, rfl⟩
      rw [hk, hx, hy] at t5
      rw [hx] at t3 s1
      rw [hy] at t4 s2
      have hxy : x * y ≤ 4096 * 4096 := Nat.mul_le_mul s1 s2
      obtain ⟨z, hz⟩ : ∃ z, x * y = z := ⟨_, rfl⟩
      have hz2 : ((x : Int) * (y : Int)) = (z : Int) := by rw [← hz]; exact (Int.natCast_mul x y).symm
      rw [hz] at t5 hxy
      have hw1 : IntKind.i64.wrap ((x : Int) * (y : Int)) = (z : Int) := by rw [hz2]; exact IntWalk.i64_in _ (by omega)
      have hne : ((z : Int) != (z : Int)) = false := by simp
      have HB := Lib.hid (bb w67)
      clear hyes hk hx hy hz k1 k2 R1 R2 R3 g1 q3 q4 HW
      have c0 := S.out.cell (i := 3) rfl (o := 0) rfl
      have c1 := S.out.cell (i := 3) rfl (o := 1) rfl
      go_wp2_with fail
      refine (t3.out _ HB.out).mono ?_
      rintro e w68 ⟨rfl, hb⟩
      replace S := Lib.hid (S.out.grow hb)
      replace HB := Lib.hid (btr HB.out hb)
      clear hb c0 c1 t3
      have c0 := S.out.cell (i := 2) rfl (o := 0) rfl
      have c1 := S.out.cell (i := 2) rfl (o := 1) rfl
      go_wp2_with fail
      refine (t4.out _ HB.out).mono ?_
      rintro e w69 ⟨rfl, hb⟩
      replace S := Lib.hid (S.out.grow hb)
      replace HB := Lib.hid (btr HB.out hb)
      clear hb c0 c1 t4
      have c0 := S.out.cell (i := 1) rfl (o := 0) rfl
      have c1 := S.out.cell (i := 1) rfl (o := 1) rfl
      go_wp2_with fail
      refine (t5.out _ HB.out).mono ?_
      rintro e w70 ⟨rfl, hb⟩
      replace S := Lib.hid (S.out.grow hb)
      replace HB := Lib.hid (btr HB.out hb)
      clear hb c0 c1 t5
      replace hz2 := Lib.hid hz2
      clear S
      go_wp2_with fail
      go_meet
      exact HB
  case rest => as_aux_lemma =>
  rename World => w70
  have hb := hcut.out
  replace S := Lib.hid (S.out.grow hb)
  replace R1 := Lib.hid (Ty.row_grow R1.out hb)
  replace R2 := Lib.hid (Ty.row_grow R2.out hb)
  clear hcut hb R3 hyes g1 HW
  have e2 : (some == some) = true := by cases some <;> rfl
  have c0 := S.out.cell (i := 3) rfl (o := 0) rfl
  have c1 := S.out.cell (i := 3) rfl (o := 1) rfl
  have d0 := S.out.cell (i := 2) rfl (o := 0) rfl
  have d1 := S.out.cell (i := 2) rfl (o := 1) rfl
  go_wp2_with fail
  refine (q3.out F1 F2 _ R1.out R2.out).mono ?_
  rintro e w71 ⟨B5, p5, F5, rfl, R5, hb⟩
  replace S := Lib.hid (S.out.grow hb)
  replace R1 := Lib.hid (Ty.row_grow R1.out hb)
  replace R2 := Lib.hid (Ty.row_grow R2.out hb)
  clear hb c0 c1 d0 d1 q3
  replace R5 := Lib.hid R5
  obtain ⟨b5, hb5⟩ : ∃ b, w71.heap.size = b := ⟨_, rfl⟩
  have T := S.out.alloc_box #[.int .i64 vd, .slice B5 us.length p5] 28
  rw [hb5] at T
  replace R1 := Lib.hid (Ty.row_grow R1.out (bal (bb _) (.cells #[.int .i64 vd, .slice B5 us.length p5] 28)))
  replace R2 := Lib.hid (Ty.row_grow R2.out (bal (bb _) (.cells #[.int .i64 vd, .slice B5 us.length p5] 28)))
  replace R5 := Lib.hid (Ty.row_grow R5.out (bal (bb _) (.cells #[.int .i64 vd, .slice B5 us.length p5] 28)))
  obtain ⟨w72, hw72⟩ : ∃ W, w71.alloc (.cells #[.int .i64 vd, .slice B5 us.length p5] 28) = W := ⟨_, rfl⟩
  replace S := Lib.hid T
  clear T
  rw [hw72] at S
  rw [hw72] at R1
  rw [hw72] at R2
  rw [hw72] at R5
  have c0 := S.out.cell (i := 4) rfl (o := 0) rfl
  have c1 := S.out.cell (i := 4) rfl (o := 1) rfl
  have d0 := S.out.cell (i := 3) rfl (o := 0) rfl
  have d1 := S.out.cell (i := 3) rfl (o := 1) rfl
  go_wp2_with fail
  refine (q4.out F1 F2 _ R1.out R2.out).mono ?_
  rintro e w73 ⟨B6, p6, F6, rfl, R6, hb⟩
  replace S := Lib.hid (S.out.grow hb)
  replace R1 := Lib.hid (Ty.row_grow R1.out hb)
  replace R2 := Lib.hid (Ty.row_grow R2.out hb)
  replace R5 := Lib.hid (Ty.row_grow R5.out hb)
  clear hb c0 c1 d0 d1 q4
  replace R6 := Lib.hid R6
  obtain ⟨b6, hb6⟩ : ∃ b, w73.heap.size = b := ⟨_, rfl⟩
  have T := S.out.alloc_box #[.int .i64 vd, .slice B6 us.length p6] 28
  rw [hb6] at T
  replace R1 := Lib.hid (Ty.row_grow R1.out (bal (bb _) (.cells #[.int .i64 vd, .slice B6 us.length p6] 28)))
  replace R2 := Lib.hid (Ty.row_grow R2.out (bal (bb _) (.cells #[.int .i64 vd, .slice B6 us.length p6] 28)))
  replace R5 := Lib.hid (Ty.row_grow R5.out (bal (bb _) (.cells #[.int .i64 vd, .slice B6 us.length p6] 28)))
  replace R6 := Lib.hid (Ty.row_grow R6.out (bal (bb _) (.cells #[.int .i64 vd, .slice B6 us.length p6] 28)))
  obtain ⟨w74, hw74⟩ : ∃ W, w73.alloc (.cells #[.int .i64 vd, .slice B6 us.length p6] 28) = W := ⟨_, rfl⟩
  replace S := Lib.hid T
  clear T
  rw [hw74] at S
  rw [hw74] at R1
  rw [hw74] at R2
  rw [hw74] at R5
  rw [hw74] at R6
  have y1 := Lib.hid (vCnfX_any vd B5 B6 p5 p6 us F5 F6 w74 R5.out R6.out g2.out)
  clear R6
  have c0 := S.out.cell (i := 1) rfl (o := 0) rfl
  have c1 := S.out.cell (i := 1) rfl (o := 1) rfl
  have d0 := S.out.cell (i := 0) rfl (o := 0) rfl
  have d1 := S.out.cell (i := 0) rfl (o := 1) rfl
  go_wp2_with fail
  refine (y1.out).mono ?_
  rintro e w75 ⟨rfl, hb⟩
  replace S := Lib.hid (S.out.grow hb)
  replace R1 := Lib.hid (Ty.row_grow R1.out hb)
  replace R2 := Lib.hid (Ty.row_grow R2.out hb)
  replace R5 := Lib.hid (Ty.row_grow R5.out hb)
  clear hb c0 c1 d0 d1 y1
  have hB := Lib.hid S.out.below
  clear S R1 R2 R5
  go_wp2_with fail
  go_ret
  exact ⟨rfl, hB.out⟩
end Go.Proofs.YtahbepajeplcmaaGreat
