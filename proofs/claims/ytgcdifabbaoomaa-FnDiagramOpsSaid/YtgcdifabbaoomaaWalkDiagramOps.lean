/- The walk of FnDiagramOps. -/
import Derived.Test.YtgcdifabbaoomaaDgV
import Derived.Deep.DeepCutAuto
namespace Go.Proofs.Ytgcdifabbaoomaa
open Go.RowKit

set_option maxRecDepth 100000 in
set_option maxHeartbeats 16000000 in
theorem FnDiagramOps_walk (ca : Option Addr) (cl cc : Nat) (w : World) (hc : CodeOk w ca cl) :
    Calls Try.prog 3 #[.slice ca cl cc] w fun e w' => e = .returned (.bool true) ∧ Below w.heap.size w w' := by
  have hcH := Lib.hid hc
  clear hc
  by_cases hbig : (65536 : Int) < (cl : Int)
  · go_enter Try.func3, Try.ntmps3
    go_wp2_with fail
    refine (vBig_any _ _ _ _).mono ?_
    rintro e w1 ⟨rfl, rfl⟩
    rw [decide_eq_true hbig]
    go_wp2_with fail
    go_ret
    exact ⟨rfl, bb _⟩
  have hsm : cl ≤ 65536 := by omega
  have hv := Lib.hid (decide_eq_false hbig)
  clear hbig
  go_enter Try.func3, Try.ntmps3
  go_wp2_with fail
  refine (vBig_any _ _ _ _).mono ?_
  rintro e w1 ⟨rfl, rfl⟩
  rw [hv.out]
  clear hv
  go_wp2_with fail
  refine (drawAnd_any ca cl cc w1 hcH.out hsm).mono ?_
  rintro e w2 ⟨vars, r_d, r_e, ns_d, ns_e, B_d, B_e, c_d, c_e, hv0, hv1, hl_d, hl_e, rfl, hN_d, hN_e, hb2⟩
  obtain ⟨b_d, hbd⟩ : ∃ b, w2.heap.size = b := ⟨_, rfl⟩
  have S10 := ((Sp.of_below hb2).alloc_box #[.int .i64 r_d, .slice B_d ns_d.length c_d] 26).alloc_box #[.int .i64 r_e, .slice B_e ns_e.length c_e] 26
  simp only [World.size_alloc] at S10
  rw [hbd] at S10
  replace S10 := Lib.hid S10
  replace hN_d := Lib.hid (hN_d.grow (bal (bal (bb _) (.cells #[.int .i64 r_d, .slice B_d ns_d.length c_d] 26)) (.cells #[.int .i64 r_e, .slice B_e ns_e.length c_e] 26)))
  replace hN_e := Lib.hid (hN_e.grow (bal (bal (bb _) (.cells #[.int .i64 r_d, .slice B_d ns_d.length c_d] 26)) (.cells #[.int .i64 r_e, .slice B_e ns_e.length c_e] 26)))
  clear hb2
  obtain ⟨ok, hok⟩ : ∃ ok, (goodD vars r_d ns_d && goodD vars r_e ns_e) = ok := ⟨_, rfl⟩
  have hne : (ok != ok) = false := by cases ok <;> rfl
  obtain ⟨r_a, hra⟩ : ∃ r, outR ok vars (fun b => valD r_d ns_d b && valD r_e ns_e b) = r := ⟨_, rfl⟩
  obtain ⟨ns_a, hna⟩ : ∃ n, outN ok vars (fun b => valD r_d ns_d b && valD r_e ns_e b) = n := ⟨_, rfl⟩
  obtain ⟨r_o, hro⟩ : ∃ r, outR ok vars (fun b => valD r_d ns_d b || valD r_e ns_e b) = r := ⟨_, rfl⟩
  obtain ⟨ns_o, hno⟩ : ∃ n, outN ok vars (fun b => valD r_d ns_d b || valD r_e ns_e b) = n := ⟨_, rfl⟩
  have hl_a : ns_a.length ≤ 1000 := by rw [← hna]; exact out_len ok hv1 _
  have hl_o : ns_o.length ≤ 1000 := by rw [← hno]; exact out_len ok hv1 _
  have hcA := Lib.hid (fun W x y => andD_any vars r_d r_e B_d B_e c_d c_e ns_d ns_e W x y (by omega) (by omega))
  have hcB := Lib.hid (fun W x y => specAnd_any vars r_d r_e B_d B_e c_d c_e ns_d ns_e W x y (by omega) (by omega))
  have hcC := Lib.hid (fun W x y => orD_any vars r_d r_e B_d B_e c_d c_e ns_d ns_e W x y (by omega) (by omega))
  have hcD := Lib.hid (fun W x y => specOr_any vars r_d r_e B_d B_e c_d c_e ns_d ns_e W x y (by omega) (by omega))
  rw [hok] at hcA hcB hcC hcD
  rw [hra, hna] at hcA hcB
  rw [hro, hno] at hcC hcD
  replace hok := Lib.hid hok
  replace hra := Lib.hid hra
  replace hna := Lib.hid hna
  replace hro := Lib.hid hro
  replace hno := Lib.hid hno
  have p_d_0 := S10.out.cell (i := 1) rfl (o := 0) rfl
  have p_d_1 := S10.out.cell (i := 1) rfl (o := 1) rfl
  have p_e_0 := S10.out.cell (i := 0) rfl (o := 0) rfl
  have p_e_1 := S10.out.cell (i := 0) rfl (o := 1) rfl
  go_wp2_with fail
  clear p_d_0 p_d_1 p_e_0 p_e_1
  refine (hcA.out _ hN_d.out hN_e.out).mono ?_
  rintro e w11 ⟨B_a, c_a, rfl, hN_a, -, hb11⟩
  obtain ⟨b_a, hbe11⟩ : ∃ b, w11.heap.size = b := ⟨_, rfl⟩
  have S11 := (S10.out.grow hb11).alloc_box #[.int .i64 r_a, .slice B_a ns_a.length c_a] 26
  rw [hbe11] at S11
  replace S11 := Lib.hid S11
  replace hN_d := Lib.hid (hN_d.out.grow (bal hb11 (.cells #[.int .i64 r_a, .slice B_a ns_a.length c_a] 26)))
  replace hN_e := Lib.hid (hN_e.out.grow (bal hb11 (.cells #[.int .i64 r_a, .slice B_a ns_a.length c_a] 26)))
  replace hN_a := Lib.hid (hN_a.grow (bal (bb _) (.cells #[.int .i64 r_a, .slice B_a ns_a.length c_a] 26)))
  clear S10 hb11
  have p_d_0 := S11.out.cell (i := 2) rfl (o := 0) rfl
  have p_d_1 := S11.out.cell (i := 2) rfl (o := 1) rfl
  have p_e_0 := S11.out.cell (i := 1) rfl (o := 0) rfl
  have p_e_1 := S11.out.cell (i := 1) rfl (o := 1) rfl
  go_wp2_with fail
  clear p_d_0 p_d_1 p_e_0 p_e_1
  refine (hcB.out _ hN_d.out hN_e.out).mono ?_
  rintro e w12 ⟨B_a2, c_a2, rfl, hN_a2, -, hb12⟩
  obtain ⟨b_a2, hbe12⟩ : ∃ b, w12.heap.size = b := ⟨_, rfl⟩
  have S12 := (S11.out.grow hb12).alloc_box #[.int .i64 r_a, .slice B_a2 ns_a.length c_a2] 26
  rw [hbe12] at S12
  replace S12 := Lib.hid S12
  replace hN_d := Lib.hid (hN_d.out.grow (bal hb12 (.cells #[.int .i64 r_a, .slice B_a2 ns_a.length c_a2] 26)))
  replace hN_e := Lib.hid (hN_e.out.grow (bal hb12 (.cells #[.int .i64 r_a, .slice B_a2 ns_a.length c_a2] 26)))
  replace hN_a := Lib.hid (hN_a.out.grow (bal hb12 (.cells #[.int .i64 r_a, .slice B_a2 ns_a.length c_a2] 26)))
  replace hN_a2 := Lib.hid (hN_a2.grow (bal (bb _) (.cells #[.int .i64 r_a, .slice B_a2 ns_a.length c_a2] 26)))
  clear S11 hb12
  have p_a_0 := S12.out.cell (i := 1) rfl (o := 0) rfl
  have p_a_1 := S12.out.cell (i := 1) rfl (o := 1) rfl
  have p_a2_0 := S12.out.cell (i := 0) rfl (o := 0) rfl
  have p_a2_1 := S12.out.cell (i := 0) rfl (o := 1) rfl
  go_wp2_with fail
  clear p_a_0 p_a_1 p_a2_0 p_a2_1
  refine (vDiagram_same r_a B_a B_a2 c_a c_a2 ns_a _ hN_a.out hN_a2.out (by omega)).mono ?_
  rintro e w13 ⟨rfl, hb13⟩
  have S13 := Lib.hid (S12.out.grow hb13)
  replace hN_d := Lib.hid (hN_d.out.grow hb13)
  replace hN_e := Lib.hid (hN_e.out.grow hb13)
  replace hN_a := Lib.hid (hN_a.out.grow hb13)
  replace hN_a2 := Lib.hid (hN_a2.out.grow hb13)
  clear S12 hb13
  have p_d_0 := S13.out.cell (i := 3) rfl (o := 0) rfl
  have p_d_1 := S13.out.cell (i := 3) rfl (o := 1) rfl
  have p_e_0 := S13.out.cell (i := 2) rfl (o := 0) rfl
  have p_e_1 := S13.out.cell (i := 2) rfl (o := 1) rfl
  go_wp2_with fail
  clear p_d_0 p_d_1 p_e_0 p_e_1
  refine (hcC.out _ hN_d.out hN_e.out).mono ?_
  rintro e w14 ⟨B_o, c_o, rfl, hN_o, -, hb14⟩
  obtain ⟨b_o, hbe14⟩ : ∃ b, w14.heap.size = b := ⟨_, rfl⟩
  have S14 := (S13.out.grow hb14).alloc_box #[.int .i64 r_o, .slice B_o ns_o.length c_o] 26
  rw [hbe14] at S14
  replace S14 := Lib.hid S14
  replace hN_d := Lib.hid (hN_d.out.grow (bal hb14 (.cells #[.int .i64 r_o, .slice B_o ns_o.length c_o] 26)))
  replace hN_e := Lib.hid (hN_e.out.grow (bal hb14 (.cells #[.int .i64 r_o, .slice B_o ns_o.length c_o] 26)))
  replace hN_a := Lib.hid (hN_a.out.grow (bal hb14 (.cells #[.int .i64 r_o, .slice B_o ns_o.length c_o] 26)))
  replace hN_a2 := Lib.hid (hN_a2.out.grow (bal hb14 (.cells #[.int .i64 r_o, .slice B_o ns_o.length c_o] 26)))
  replace hN_o := Lib.hid (hN_o.grow (bal (bb _) (.cells #[.int .i64 r_o, .slice B_o ns_o.length c_o] 26)))
  clear S13 hb14
  have p_d_0 := S14.out.cell (i := 4) rfl (o := 0) rfl
  have p_d_1 := S14.out.cell (i := 4) rfl (o := 1) rfl
  have p_e_0 := S14.out.cell (i := 3) rfl (o := 0) rfl
  have p_e_1 := S14.out.cell (i := 3) rfl (o := 1) rfl
  go_wp2_with fail
  clear p_d_0 p_d_1 p_e_0 p_e_1
  refine (hcD.out _ hN_d.out hN_e.out).mono ?_
  rintro e w15 ⟨B_o2, c_o2, rfl, hN_o2, -, hb15⟩
  obtain ⟨b_o2, hbe15⟩ : ∃ b, w15.heap.size = b := ⟨_, rfl⟩
  have S15 := (S14.out.grow hb15).alloc_box #[.int .i64 r_o, .slice B_o2 ns_o.length c_o2] 26
  rw [hbe15] at S15
  replace S15 := Lib.hid S15
  replace hN_d := Lib.hid (hN_d.out.grow (bal hb15 (.cells #[.int .i64 r_o, .slice B_o2 ns_o.length c_o2] 26)))
  replace hN_e := Lib.hid (hN_e.out.grow (bal hb15 (.cells #[.int .i64 r_o, .slice B_o2 ns_o.length c_o2] 26)))
  replace hN_a := Lib.hid (hN_a.out.grow (bal hb15 (.cells #[.int .i64 r_o, .slice B_o2 ns_o.length c_o2] 26)))
  replace hN_a2 := Lib.hid (hN_a2.out.grow (bal hb15 (.cells #[.int .i64 r_o, .slice B_o2 ns_o.length c_o2] 26)))
  replace hN_o := Lib.hid (hN_o.out.grow (bal hb15 (.cells #[.int .i64 r_o, .slice B_o2 ns_o.length c_o2] 26)))
  replace hN_o2 := Lib.hid (hN_o2.grow (bal (bb _) (.cells #[.int .i64 r_o, .slice B_o2 ns_o.length c_o2] 26)))
  clear S14 hb15
  have p_o_0 := S15.out.cell (i := 1) rfl (o := 0) rfl
  have p_o_1 := S15.out.cell (i := 1) rfl (o := 1) rfl
  have p_o2_0 := S15.out.cell (i := 0) rfl (o := 0) rfl
  have p_o2_1 := S15.out.cell (i := 0) rfl (o := 1) rfl
  go_wp2_with fail
  clear p_o_0 p_o_1 p_o2_0 p_o2_1
  refine (vDiagram_same r_o B_o B_o2 c_o c_o2 ns_o _ hN_o.out hN_o2.out (by omega)).mono ?_
  rintro e w16 ⟨rfl, hb16⟩
  have S16 := Lib.hid (S15.out.grow hb16)
  replace hN_d := Lib.hid (hN_d.out.grow hb16)
  replace hN_e := Lib.hid (hN_e.out.grow hb16)
  replace hN_a := Lib.hid (hN_a.out.grow hb16)
  replace hN_a2 := Lib.hid (hN_a2.out.grow hb16)
  replace hN_o := Lib.hid (hN_o.out.grow hb16)
  replace hN_o2 := Lib.hid (hN_o2.out.grow hb16)
  clear S15 hb16
  go_upto_if 109 with fail
  go_cut [] (fun wx => Hid (Below w1.heap.size w1 wx))
  case first =>
    cases ok
    · go_wp2_with fail
      go_meet
      exact S16.out.below
    · as_aux_lemma =>
        obtain ⟨hg_d, hg_e⟩ := Bool.and_eq_true_iff.1 hok.out
        obtain ⟨n, rfl⟩ := Int.eq_ofNat_of_zero_le (good_parts hg_d).1.1
        have hn : n ≤ 6 := by have := (good_parts hg_d).1.2; omega
        have era : r_a = dgR n (fun b => valD r_d ns_d b && valD r_e ns_e b) := hra.out.symm
        have ena : ns_a = dgN n (fun b => valD r_d ns_d b && valD r_e ns_e b) := hna.out.symm
        have ero : r_o = dgR n (fun b => valD r_d ns_d b || valD r_e ns_e b) := hro.out.symm
        have eno : ns_o = dgN n (fun b => valD r_d ns_d b || valD r_e ns_e b) := hno.out.symm
        have hg_a : goodD n r_a ns_a = true := by rw [era, ena]; exact dg_good _ hn
        have hg_o : goodD n r_o ns_o = true := by rw [ero, eno]; exact dg_good _ hn
        have hl1 := deM_law (n := n) (valD r_d ns_d) (valD r_e ns_e)
        have hl2 := cnt_law (n := n) (valD r_d ns_d) (valD r_e ns_e)
        rw [← era, ← ena] at hl1
        rw [← era, ← ena, ← ero, ← eno] at hl2
        clear era ena ero eno hra hna hro hno hok hcA hcB hcC hcD
        have hcX := Lib.hid (fun W x => not_yes r_d B_d c_d ns_d W x (by omega) hg_d)
        have hcY := Lib.hid (fun W x => not_yes r_e B_e c_e ns_e W x (by omega) hg_e)
        have hg_x : goodD n (dgR n fun b => !(valD r_d ns_d b)) (dgN n fun b => !(valD r_d ns_d b)) = true := dg_good _ hn
        have hg_y : goodD n (dgR n fun b => !(valD r_e ns_e b)) (dgN n fun b => !(valD r_e ns_e b)) = true := dg_good _ hn
        have hl_x := dg_len (vars := n) (fun b => !(valD r_d ns_d b)) hn
        have hl_y := dg_len (vars := n) (fun b => !(valD r_e ns_e b)) hn
        generalize (dgR n fun b => !(valD r_d ns_d b)) = r_x at *
        generalize (dgN n fun b => !(valD r_d ns_d b)) = ns_x at *
        generalize (dgR n fun b => !(valD r_e ns_e b)) = r_y at *
        generalize (dgN n fun b => !(valD r_e ns_e b)) = ns_y at *
        have hcZ := Lib.hid (fun W B B' c c' x y => or_yes r_x r_y B B' c c' ns_x ns_y W x y (by omega) (by omega) hg_x hg_y)
        have hcW := Lib.hid (fun W B c x => not_yes r_a B c ns_a W x (by omega) hg_a)
        have hl_z := dg_len (vars := n) (fun b => !(valD r_a ns_a b)) hn
        rw [hl1.1, hl1.2] at hcZ
        generalize (dgR n fun b => !(valD r_a ns_a b)) = r_z at *
        generalize (dgN n fun b => !(valD r_a ns_a b)) = ns_z at *
        have hk1 := Lib.hid (fun W x => cnt_yes r_d B_d c_d ns_d W x (by omega) hg_d)
        have hk2 := Lib.hid (fun W x => cnt_yes r_e B_e c_e ns_e W x (by omega) hg_e)
        have hk3 := Lib.hid (fun W B c x => cnt_yes r_a B c ns_a W x (by omega) hg_a)
        have hk4 := Lib.hid (fun W B c x => cnt_yes r_o B c ns_o W x (by omega) hg_o)
        have q1 := cnt_small hn (valD r_d ns_d)
        have q2 := cnt_small hn (valD r_e ns_e)
        have q3 := cnt_small hn (valD r_a ns_a)
        have q4 := cnt_small hn (valD r_o ns_o)
        generalize cntB n (valD r_d ns_d) = m1 at *
        generalize cntB n (valD r_e ns_e) = m2 at *
        generalize cntB n (valD r_a ns_a) = m3 at *
        generalize cntB n (valD r_o ns_o) = m4 at *
        have hw1 : IntKind.i64.wrap ((m1 : Int) + m2) = (m1 : Int) + m2 := IntWalk.i64_in _ (by omega)
        have hw2 : IntKind.i64.wrap ((m3 : Int) + m4) = (m3 : Int) + m4 := IntWalk.i64_in _ (by omega)
        have hsum : (((m1 : Int) + m2) != ((m3 : Int) + m4)) = false := by simp; omega
        replace hl2 := Lib.hid hl2
        clear hl1 hg_d hg_e hg_a hg_o hg_x hg_y
        have p_d_0 := S16.out.cell (i := 5) rfl (o := 0) rfl
        have p_d_1 := S16.out.cell (i := 5) rfl (o := 1) rfl
        go_wp2_with fail
        clear p_d_0 p_d_1
        refine (hcX.out _ hN_d.out).mono ?_
        rintro e w17 ⟨B_x, c_x, rfl, hN_x, hb17⟩
        obtain ⟨b_x, hbe17⟩ : ∃ b, w17.heap.size = b := ⟨_, rfl⟩
        have S17 := (S16.out.grow hb17).alloc_box #[.int .i64 r_x, .slice B_x ns_x.length c_x] 26
        rw [hbe17] at S17
        replace S17 := Lib.hid S17
        replace hN_d := Lib.hid (hN_d.out.grow (bal hb17 (.cells #[.int .i64 r_x, .slice B_x ns_x.length c_x] 26)))
        replace hN_e := Lib.hid (hN_e.out.grow (bal hb17 (.cells #[.int .i64 r_x, .slice B_x ns_x.length c_x] 26)))
        replace hN_a := Lib.hid (hN_a.out.grow (bal hb17 (.cells #[.int .i64 r_x, .slice B_x ns_x.length c_x] 26)))
        replace hN_a2 := Lib.hid (hN_a2.out.grow (bal hb17 (.cells #[.int .i64 r_x, .slice B_x ns_x.length c_x] 26)))
        replace hN_o := Lib.hid (hN_o.out.grow (bal hb17 (.cells #[.int .i64 r_x, .slice B_x ns_x.length c_x] 26)))
        replace hN_o2 := Lib.hid (hN_o2.out.grow (bal hb17 (.cells #[.int .i64 r_x, .slice B_x ns_x.length c_x] 26)))
        replace hN_x := Lib.hid (hN_x.grow (bal (bb _) (.cells #[.int .i64 r_x, .slice B_x ns_x.length c_x] 26)))
        clear S16 hb17
        have p_e_0 := S17.out.cell (i := 5) rfl (o := 0) rfl
        have p_e_1 := S17.out.cell (i := 5) rfl (o := 1) rfl
        go_wp2_with fail
        clear p_e_0 p_e_1
        refine (hcY.out _ hN_e.out).mono ?_
        rintro e w18 ⟨B_y, c_y, rfl, hN_y, hb18⟩
        obtain ⟨b_y, hbe18⟩ : ∃ b, w18.heap.size = b := ⟨_, rfl⟩
        have S18 := (S17.out.grow hb18).alloc_box #[.int .i64 r_y, .slice B_y ns_y.length c_y] 26
        rw [hbe18] at S18
        replace S18 := Lib.hid S18
        replace hN_d := Lib.hid (hN_d.out.grow (bal hb18 (.cells #[.int .i64 r_y, .slice B_y ns_y.length c_y] 26)))
        replace hN_e := Lib.hid (hN_e.out.grow (bal hb18 (.cells #[.int .i64 r_y, .slice B_y ns_y.length c_y] 26)))
        replace hN_a := Lib.hid (hN_a.out.grow (bal hb18 (.cells #[.int .i64 r_y, .slice B_y ns_y.length c_y] 26)))
        replace hN_a2 := Lib.hid (hN_a2.out.grow (bal hb18 (.cells #[.int .i64 r_y, .slice B_y ns_y.length c_y] 26)))
        replace hN_o := Lib.hid (hN_o.out.grow (bal hb18 (.cells #[.int .i64 r_y, .slice B_y ns_y.length c_y] 26)))
        replace hN_o2 := Lib.hid (hN_o2.out.grow (bal hb18 (.cells #[.int .i64 r_y, .slice B_y ns_y.length c_y] 26)))
        replace hN_x := Lib.hid (hN_x.out.grow (bal hb18 (.cells #[.int .i64 r_y, .slice B_y ns_y.length c_y] 26)))
        replace hN_y := Lib.hid (hN_y.grow (bal (bb _) (.cells #[.int .i64 r_y, .slice B_y ns_y.length c_y] 26)))
        clear S17 hb18
        have p_x_0 := S18.out.cell (i := 1) rfl (o := 0) rfl
        have p_x_1 := S18.out.cell (i := 1) rfl (o := 1) rfl
        have p_y_0 := S18.out.cell (i := 0) rfl (o := 0) rfl
        have p_y_1 := S18.out.cell (i := 0) rfl (o := 1) rfl
        go_wp2_with fail
        clear p_x_0 p_x_1 p_y_0 p_y_1
        refine (hcZ.out _ B_x B_y c_x c_y hN_x.out hN_y.out).mono ?_
        rintro e w19 ⟨B_z, c_z, rfl, hN_z, hb19⟩
        obtain ⟨b_z, hbe19⟩ : ∃ b, w19.heap.size = b := ⟨_, rfl⟩
        have S19 := (S18.out.grow hb19).alloc_box #[.int .i64 r_z, .slice B_z ns_z.length c_z] 26
        rw [hbe19] at S19
        replace S19 := Lib.hid S19
        replace hN_d := Lib.hid (hN_d.out.grow (bal hb19 (.cells #[.int .i64 r_z, .slice B_z ns_z.length c_z] 26)))
        replace hN_e := Lib.hid (hN_e.out.grow (bal hb19 (.cells #[.int .i64 r_z, .slice B_z ns_z.length c_z] 26)))
        replace hN_a := Lib.hid (hN_a.out.grow (bal hb19 (.cells #[.int .i64 r_z, .slice B_z ns_z.length c_z] 26)))
        replace hN_a2 := Lib.hid (hN_a2.out.grow (bal hb19 (.cells #[.int .i64 r_z, .slice B_z ns_z.length c_z] 26)))
        replace hN_o := Lib.hid (hN_o.out.grow (bal hb19 (.cells #[.int .i64 r_z, .slice B_z ns_z.length c_z] 26)))
        replace hN_o2 := Lib.hid (hN_o2.out.grow (bal hb19 (.cells #[.int .i64 r_z, .slice B_z ns_z.length c_z] 26)))
        replace hN_x := Lib.hid (hN_x.out.grow (bal hb19 (.cells #[.int .i64 r_z, .slice B_z ns_z.length c_z] 26)))
        replace hN_y := Lib.hid (hN_y.out.grow (bal hb19 (.cells #[.int .i64 r_z, .slice B_z ns_z.length c_z] 26)))
        replace hN_z := Lib.hid (hN_z.grow (bal (bb _) (.cells #[.int .i64 r_z, .slice B_z ns_z.length c_z] 26)))
        clear S18 hb19
        have p_a_0 := S19.out.cell (i := 6) rfl (o := 0) rfl
        have p_a_1 := S19.out.cell (i := 6) rfl (o := 1) rfl
        go_wp2_with fail
        clear p_a_0 p_a_1
        refine (hcW.out _ B_a c_a hN_a.out).mono ?_
        rintro e w20 ⟨B_z2, c_z2, rfl, hN_z2, hb20⟩
        obtain ⟨b_z2, hbe20⟩ : ∃ b, w20.heap.size = b := ⟨_, rfl⟩
        have S20 := (S19.out.grow hb20).alloc_box #[.int .i64 r_z, .slice B_z2 ns_z.length c_z2] 26
        rw [hbe20] at S20
        replace S20 := Lib.hid S20
        replace hN_d := Lib.hid (hN_d.out.grow (bal hb20 (.cells #[.int .i64 r_z, .slice B_z2 ns_z.length c_z2] 26)))
        replace hN_e := Lib.hid (hN_e.out.grow (bal hb20 (.cells #[.int .i64 r_z, .slice B_z2 ns_z.length c_z2] 26)))
        replace hN_a := Lib.hid (hN_a.out.grow (bal hb20 (.cells #[.int .i64 r_z, .slice B_z2 ns_z.length c_z2] 26)))
        replace hN_a2 := Lib.hid (hN_a2.out.grow (bal hb20 (.cells #[.int .i64 r_z, .slice B_z2 ns_z.length c_z2] 26)))
        replace hN_o := Lib.hid (hN_o.out.grow (bal hb20 (.cells #[.int .i64 r_z, .slice B_z2 ns_z.length c_z2] 26)))
        replace hN_o2 := Lib.hid (hN_o2.out.grow (bal hb20 (.cells #[.int .i64 r_z, .slice B_z2 ns_z.length c_z2] 26)))
        replace hN_x := Lib.hid (hN_x.out.grow (bal hb20 (.cells #[.int .i64 r_z, .slice B_z2 ns_z.length c_z2] 26)))
        replace hN_y := Lib.hid (hN_y.out.grow (bal hb20 (.cells #[.int .i64 r_z, .slice B_z2 ns_z.length c_z2] 26)))
        replace hN_z := Lib.hid (hN_z.out.grow (bal hb20 (.cells #[.int .i64 r_z, .slice B_z2 ns_z.length c_z2] 26)))
        replace hN_z2 := Lib.hid (hN_z2.grow (bal (bb _) (.cells #[.int .i64 r_z, .slice B_z2 ns_z.length c_z2] 26)))
        clear S19 hb20
        have p_z_0 := S20.out.cell (i := 1) rfl (o := 0) rfl
        have p_z_1 := S20.out.cell (i := 1) rfl (o := 1) rfl
        have p_z2_0 := S20.out.cell (i := 0) rfl (o := 0) rfl
        have p_z2_1 := S20.out.cell (i := 0) rfl (o := 1) rfl
        go_wp2_with fail
        clear p_z_0 p_z_1 p_z2_0 p_z2_1
        refine (vDiagram_same r_z B_z B_z2 c_z c_z2 ns_z _ hN_z.out hN_z2.out (by omega)).mono ?_
        rintro e w21 ⟨rfl, hb21⟩
        have S21 := Lib.hid (S20.out.grow hb21)
        replace hN_d := Lib.hid (hN_d.out.grow hb21)
        replace hN_e := Lib.hid (hN_e.out.grow hb21)
        replace hN_a := Lib.hid (hN_a.out.grow hb21)
        replace hN_a2 := Lib.hid (hN_a2.out.grow hb21)
        replace hN_o := Lib.hid (hN_o.out.grow hb21)
        replace hN_o2 := Lib.hid (hN_o2.out.grow hb21)
        replace hN_x := Lib.hid (hN_x.out.grow hb21)
        replace hN_y := Lib.hid (hN_y.out.grow hb21)
        replace hN_z := Lib.hid (hN_z.out.grow hb21)
        replace hN_z2 := Lib.hid (hN_z2.out.grow hb21)
        clear S20 hb21
        have p_d_0 := S21.out.cell (i := 9) rfl (o := 0) rfl
        have p_d_1 := S21.out.cell (i := 9) rfl (o := 1) rfl
        go_wp2_with fail
        clear p_d_0 p_d_1
        refine (hk1.out _ hN_d.out).mono ?_
        rintro e w22 ⟨rfl, hb22⟩
        have S22 := Lib.hid (S21.out.grow hb22)
        replace hN_d := Lib.hid (hN_d.out.grow hb22)
        replace hN_e := Lib.hid (hN_e.out.grow hb22)
        replace hN_a := Lib.hid (hN_a.out.grow hb22)
        replace hN_a2 := Lib.hid (hN_a2.out.grow hb22)
        replace hN_o := Lib.hid (hN_o.out.grow hb22)
        replace hN_o2 := Lib.hid (hN_o2.out.grow hb22)
        replace hN_x := Lib.hid (hN_x.out.grow hb22)
        replace hN_y := Lib.hid (hN_y.out.grow hb22)
        replace hN_z := Lib.hid (hN_z.out.grow hb22)
        replace hN_z2 := Lib.hid (hN_z2.out.grow hb22)
        clear S21 hb22
        have p_e_0 := S22.out.cell (i := 8) rfl (o := 0) rfl
        have p_e_1 := S22.out.cell (i := 8) rfl (o := 1) rfl
        go_wp2_with fail
        clear p_e_0 p_e_1
        refine (hk2.out _ hN_e.out).mono ?_
        rintro e w23 ⟨rfl, hb23⟩
        have S23 := Lib.hid (S22.out.grow hb23)
        replace hN_d := Lib.hid (hN_d.out.grow hb23)
        replace hN_e := Lib.hid (hN_e.out.grow hb23)
        replace hN_a := Lib.hid (hN_a.out.grow hb23)
        replace hN_a2 := Lib.hid (hN_a2.out.grow hb23)
        replace hN_o := Lib.hid (hN_o.out.grow hb23)
        replace hN_o2 := Lib.hid (hN_o2.out.grow hb23)
        replace hN_x := Lib.hid (hN_x.out.grow hb23)
        replace hN_y := Lib.hid (hN_y.out.grow hb23)
        replace hN_z := Lib.hid (hN_z.out.grow hb23)
        replace hN_z2 := Lib.hid (hN_z2.out.grow hb23)
        clear S22 hb23
        have p_a_0 := S23.out.cell (i := 7) rfl (o := 0) rfl
        have p_a_1 := S23.out.cell (i := 7) rfl (o := 1) rfl
        go_wp2_with fail
        clear p_a_0 p_a_1
        refine (hk3.out _ B_a c_a hN_a.out).mono ?_
        rintro e w24 ⟨rfl, hb24⟩
        have S24 := Lib.hid (S23.out.grow hb24)
        replace hN_d := Lib.hid (hN_d.out.grow hb24)
        replace hN_e := Lib.hid (hN_e.out.grow hb24)
        replace hN_a := Lib.hid (hN_a.out.grow hb24)
        replace hN_a2 := Lib.hid (hN_a2.out.grow hb24)
        replace hN_o := Lib.hid (hN_o.out.grow hb24)
        replace hN_o2 := Lib.hid (hN_o2.out.grow hb24)
        replace hN_x := Lib.hid (hN_x.out.grow hb24)
        replace hN_y := Lib.hid (hN_y.out.grow hb24)
        replace hN_z := Lib.hid (hN_z.out.grow hb24)
        replace hN_z2 := Lib.hid (hN_z2.out.grow hb24)
        clear S23 hb24
        have p_o_0 := S24.out.cell (i := 5) rfl (o := 0) rfl
        have p_o_1 := S24.out.cell (i := 5) rfl (o := 1) rfl
        go_wp2_with fail
        clear p_o_0 p_o_1
        refine (hk4.out _ B_o c_o hN_o.out).mono ?_
        rintro e w25 ⟨rfl, hb25⟩
        have S25 := Lib.hid (S24.out.grow hb25)
        replace hN_d := Lib.hid (hN_d.out.grow hb25)
        replace hN_e := Lib.hid (hN_e.out.grow hb25)
        replace hN_a := Lib.hid (hN_a.out.grow hb25)
        replace hN_a2 := Lib.hid (hN_a2.out.grow hb25)
        replace hN_o := Lib.hid (hN_o.out.grow hb25)
        replace hN_o2 := Lib.hid (hN_o2.out.grow hb25)
        replace hN_x := Lib.hid (hN_x.out.grow hb25)
        replace hN_y := Lib.hid (hN_y.out.grow hb25)
        replace hN_z := Lib.hid (hN_z.out.grow hb25)
        replace hN_z2 := Lib.hid (hN_z2.out.grow hb25)
        clear S24 hb25
        go_wp2_with fail
        go_meet
        exact S25.out.below
  case rest =>
  have hcut1 := hcut
  clear S16 hN_d hN_e hN_a hN_a2 hN_o hN_o2 hcA hcB hcC hcD hok hra hna hro hno hne hcut hl_a hl_o hl_d hl_e hv0 hv1
  go_wp2_with fail
  refine (drawForget_any ca cl cc _ (hcH.out.grow hcut1.out) hsm).mono ?_
  rintro e w2 ⟨vars, r_d, l, ns_d, B_d, c_d, hv0, hv1, hv2, hv3, hl_d, rfl, hN_d, hb2⟩
  obtain ⟨b_d, hbd⟩ : ∃ b, w2.heap.size = b := ⟨_, rfl⟩
  have S30 := (Sp.of_below (btr hcut1.out hb2)).alloc_box #[.int .i64 r_d, .slice B_d ns_d.length c_d] 26
  rw [hbd] at S30
  replace S30 := Lib.hid S30
  replace hN_d := Lib.hid (hN_d.grow (bal (bb _) (.cells #[.int .i64 r_d, .slice B_d ns_d.length c_d] 26)))
  clear hb2 hcut1
  obtain ⟨ok, hok⟩ : ∃ ok, (goodD vars r_d ns_d && inB l 1 vars) = ok := ⟨_, rfl⟩
  have hne : (ok != ok) = false := by cases ok <;> rfl
  obtain ⟨r_a, hra⟩ : ∃ r, outR ok vars (fun b => valD r_d ns_d (setL b l) || valD r_d ns_d (setL b (-l))) = r := ⟨_, rfl⟩
  obtain ⟨ns_a, hna⟩ : ∃ n, outN ok vars (fun b => valD r_d ns_d (setL b l) || valD r_d ns_d (setL b (-l))) = n := ⟨_, rfl⟩
  have hl_a : ns_a.length ≤ 1000 := by rw [← hna]; exact out_len ok hv1 _
  have hcA := Lib.hid (fun W x => forget_any vars r_d l B_d c_d ns_d W x (by omega))
  have hcB := Lib.hid (fun W x => specForget_any vars r_d l B_d c_d ns_d W x (by omega))
  rw [hok] at hcA hcB
  rw [hra, hna] at hcA hcB
  replace hok := Lib.hid hok
  replace hra := Lib.hid hra
  replace hna := Lib.hid hna
  have p_d_0 := S30.out.cell (i := 0) rfl (o := 0) rfl
  have p_d_1 := S30.out.cell (i := 0) rfl (o := 1) rfl
  go_wp2_with fail
  clear p_d_0 p_d_1
  refine (hcA.out _ hN_d.out).mono ?_
  rintro e w31 ⟨B_a, c_a, rfl, hN_a, -, hb31⟩
  obtain ⟨b_a, hbe31⟩ : ∃ b, w31.heap.size = b := ⟨_, rfl⟩
  have S31 := (S30.out.grow hb31).alloc_box #[.int .i64 r_a, .slice B_a ns_a.length c_a] 26
  rw [hbe31] at S31
  replace S31 := Lib.hid S31
  replace hN_d := Lib.hid (hN_d.out.grow (bal hb31 (.cells #[.int .i64 r_a, .slice B_a ns_a.length c_a] 26)))
  replace hN_a := Lib.hid (hN_a.grow (bal (bb _) (.cells #[.int .i64 r_a, .slice B_a ns_a.length c_a] 26)))
  clear S30 hb31
  have p_d_0 := S31.out.cell (i := 1) rfl (o := 0) rfl
  have p_d_1 := S31.out.cell (i := 1) rfl (o := 1) rfl
  go_wp2_with fail
  clear p_d_0 p_d_1
  refine (hcB.out _ hN_d.out).mono ?_
  rintro e w32 ⟨B_a2, c_a2, rfl, hN_a2, -, hb32⟩
  obtain ⟨b_a2, hbe32⟩ : ∃ b, w32.heap.size = b := ⟨_, rfl⟩
  have S32 := (S31.out.grow hb32).alloc_box #[.int .i64 r_a, .slice B_a2 ns_a.length c_a2] 26
  rw [hbe32] at S32
  replace S32 := Lib.hid S32
  replace hN_d := Lib.hid (hN_d.out.grow (bal hb32 (.cells #[.int .i64 r_a, .slice B_a2 ns_a.length c_a2] 26)))
  replace hN_a := Lib.hid (hN_a.out.grow (bal hb32 (.cells #[.int .i64 r_a, .slice B_a2 ns_a.length c_a2] 26)))
  replace hN_a2 := Lib.hid (hN_a2.grow (bal (bb _) (.cells #[.int .i64 r_a, .slice B_a2 ns_a.length c_a2] 26)))
  clear S31 hb32
  have p_a_0 := S32.out.cell (i := 1) rfl (o := 0) rfl
  have p_a_1 := S32.out.cell (i := 1) rfl (o := 1) rfl
  have p_a2_0 := S32.out.cell (i := 0) rfl (o := 0) rfl
  have p_a2_1 := S32.out.cell (i := 0) rfl (o := 1) rfl
  go_wp2_with fail
  clear p_a_0 p_a_1 p_a2_0 p_a2_1
  refine (vDiagram_same r_a B_a B_a2 c_a c_a2 ns_a _ hN_a.out hN_a2.out (by omega)).mono ?_
  rintro e w33 ⟨rfl, hb33⟩
  have S33 := Lib.hid (S32.out.grow hb33)
  replace hN_d := Lib.hid (hN_d.out.grow hb33)
  replace hN_a := Lib.hid (hN_a.out.grow hb33)
  replace hN_a2 := Lib.hid (hN_a2.out.grow hb33)
  clear S32 hb33
  go_upto_if 231 with fail
  go_cut [] (fun wx => Hid (Below w1.heap.size w1 wx))
  case first =>
    cases ok
    · go_wp2_with fail
      go_meet
      exact S33.out.below
    · as_aux_lemma =>
        obtain ⟨hg_d, hg_l⟩ := Bool.and_eq_true_iff.1 hok.out
        obtain ⟨n, rfl⟩ := Int.eq_ofNat_of_zero_le (good_parts hg_d).1.1
        have hn : n ≤ 6 := by have := (good_parts hg_d).1.2; omega
        have hlw : IntKind.i64.wrap (-l) = -l := IntWalk.i64_in _ (by omega)
        have hy1 : litB n l = true := by have := inB_def.1 hg_l; unfold litB; rw [Bool.and_eq_true, decide_eq_true_eq, inB_def]; omega
        have hy2 : litB n (-l) = true := by have := inB_def.1 hg_l; unfold litB; rw [Bool.and_eq_true, decide_eq_true_eq, inB_def]; omega
        have era : r_a = dgR n (fun b => valD r_d ns_d (setL b l) || valD r_d ns_d (setL b (-l))) := hra.out.symm
        have ena : ns_a = dgN n (fun b => valD r_d ns_d (setL b l) || valD r_d ns_d (setL b (-l))) := hna.out.symm
        have hl1 := forget_law (n := n) (fun b => valD r_d ns_d (setL b l)) (fun b => valD r_d ns_d (setL b (-l)))
        rw [← era, ← ena] at hl1
        clear era ena hra hna hok hcA hcB
        have hcX := Lib.hid (fun W x => set_yes r_d l B_d c_d ns_d W x (by omega) hg_d hy1)
        have hcY := Lib.hid (fun W x => set_yes r_d (-l) B_d c_d ns_d W x (by omega) hg_d hy2)
        have hg_x : goodD n (dgR n fun b => valD r_d ns_d (setL b l)) (dgN n fun b => valD r_d ns_d (setL b l)) = true := dg_good _ hn
        have hg_y : goodD n (dgR n fun b => valD r_d ns_d (setL b (-l))) (dgN n fun b => valD r_d ns_d (setL b (-l))) = true := dg_good _ hn
        have hl_x := dg_len (vars := n) (fun b => valD r_d ns_d (setL b l)) hn
        have hl_y := dg_len (vars := n) (fun b => valD r_d ns_d (setL b (-l))) hn
        generalize (dgR n fun b => valD r_d ns_d (setL b l)) = r_x at *
        generalize (dgN n fun b => valD r_d ns_d (setL b l)) = ns_x at *
        generalize (dgR n fun b => valD r_d ns_d (setL b (-l))) = r_y at *
        generalize (dgN n fun b => valD r_d ns_d (setL b (-l))) = ns_y at *
        have hcZ := Lib.hid (fun W B B' c c' x y => or_yes r_x r_y B B' c c' ns_x ns_y W x y (by omega) (by omega) hg_x hg_y)
        rw [hl1.1, hl1.2] at hcZ
        clear hl1 hg_d hg_x hg_y hy1 hy2 hg_l
        have p_d_0 := S33.out.cell (i := 2) rfl (o := 0) rfl
        have p_d_1 := S33.out.cell (i := 2) rfl (o := 1) rfl
        go_wp2_with fail
        clear p_d_0 p_d_1
        refine (hcX.out _ hN_d.out).mono ?_
        rintro e w34 ⟨B_x, c_x, rfl, hN_x, hb34⟩
        obtain ⟨b_x, hbe34⟩ : ∃ b, w34.heap.size = b := ⟨_, rfl⟩
        have S34 := (S33.out.grow hb34).alloc_box #[.int .i64 r_x, .slice B_x ns_x.length c_x] 26
        rw [hbe34] at S34
        replace S34 := Lib.hid S34
        replace hN_d := Lib.hid (hN_d.out.grow (bal hb34 (.cells #[.int .i64 r_x, .slice B_x ns_x.length c_x] 26)))
        replace hN_a := Lib.hid (hN_a.out.grow (bal hb34 (.cells #[.int .i64 r_x, .slice B_x ns_x.length c_x] 26)))
        replace hN_a2 := Lib.hid (hN_a2.out.grow (bal hb34 (.cells #[.int .i64 r_x, .slice B_x ns_x.length c_x] 26)))
        replace hN_x := Lib.hid (hN_x.grow (bal (bb _) (.cells #[.int .i64 r_x, .slice B_x ns_x.length c_x] 26)))
        clear S33 hb34
        have p_d_0 := S34.out.cell (i := 3) rfl (o := 0) rfl
        have p_d_1 := S34.out.cell (i := 3) rfl (o := 1) rfl
        go_wp2_with fail
        clear p_d_0 p_d_1
        refine (hcY.out _ hN_d.out).mono ?_
        rintro e w35 ⟨B_y, c_y, rfl, hN_y, hb35⟩
        obtain ⟨b_y, hbe35⟩ : ∃ b, w35.heap.size = b := ⟨_, rfl⟩
        have S35 := (S34.out.grow hb35).alloc_box #[.int .i64 r_y, .slice B_y ns_y.length c_y] 26
        rw [hbe35] at S35
        replace S35 := Lib.hid S35
        replace hN_d := Lib.hid (hN_d.out.grow (bal hb35 (.cells #[.int .i64 r_y, .slice B_y ns_y.length c_y] 26)))
        replace hN_a := Lib.hid (hN_a.out.grow (bal hb35 (.cells #[.int .i64 r_y, .slice B_y ns_y.length c_y] 26)))
        replace hN_a2 := Lib.hid (hN_a2.out.grow (bal hb35 (.cells #[.int .i64 r_y, .slice B_y ns_y.length c_y] 26)))
        replace hN_x := Lib.hid (hN_x.out.grow (bal hb35 (.cells #[.int .i64 r_y, .slice B_y ns_y.length c_y] 26)))
        replace hN_y := Lib.hid (hN_y.grow (bal (bb _) (.cells #[.int .i64 r_y, .slice B_y ns_y.length c_y] 26)))
        clear S34 hb35
        have p_x_0 := S35.out.cell (i := 1) rfl (o := 0) rfl
        have p_x_1 := S35.out.cell (i := 1) rfl (o := 1) rfl
        have p_y_0 := S35.out.cell (i := 0) rfl (o := 0) rfl
        have p_y_1 := S35.out.cell (i := 0) rfl (o := 1) rfl
        go_wp2_with fail
        clear p_x_0 p_x_1 p_y_0 p_y_1
        refine (hcZ.out _ B_x B_y c_x c_y hN_x.out hN_y.out).mono ?_
        rintro e w36 ⟨B_z, c_z, rfl, hN_z, hb36⟩
        obtain ⟨b_z, hbe36⟩ : ∃ b, w36.heap.size = b := ⟨_, rfl⟩
        have S36 := (S35.out.grow hb36).alloc_box #[.int .i64 r_a, .slice B_z ns_a.length c_z] 26
        rw [hbe36] at S36
        replace S36 := Lib.hid S36
        replace hN_d := Lib.hid (hN_d.out.grow (bal hb36 (.cells #[.int .i64 r_a, .slice B_z ns_a.length c_z] 26)))
        replace hN_a := Lib.hid (hN_a.out.grow (bal hb36 (.cells #[.int .i64 r_a, .slice B_z ns_a.length c_z] 26)))
        replace hN_a2 := Lib.hid (hN_a2.out.grow (bal hb36 (.cells #[.int .i64 r_a, .slice B_z ns_a.length c_z] 26)))
        replace hN_x := Lib.hid (hN_x.out.grow (bal hb36 (.cells #[.int .i64 r_a, .slice B_z ns_a.length c_z] 26)))
        replace hN_y := Lib.hid (hN_y.out.grow (bal hb36 (.cells #[.int .i64 r_a, .slice B_z ns_a.length c_z] 26)))
        replace hN_z := Lib.hid (hN_z.grow (bal (bb _) (.cells #[.int .i64 r_a, .slice B_z ns_a.length c_z] 26)))
        clear S35 hb36
        have p_z_0 := S36.out.cell (i := 0) rfl (o := 0) rfl
        have p_z_1 := S36.out.cell (i := 0) rfl (o := 1) rfl
        have p_a_0 := S36.out.cell (i := 4) rfl (o := 0) rfl
        have p_a_1 := S36.out.cell (i := 4) rfl (o := 1) rfl
        go_wp2_with fail
        clear p_z_0 p_z_1 p_a_0 p_a_1
        refine (vDiagram_same r_a B_z B_a c_z c_a ns_a _ hN_z.out hN_a.out (by omega)).mono ?_
        rintro e w37 ⟨rfl, hb37⟩
        have S37 := Lib.hid (S36.out.grow hb37)
        replace hN_d := Lib.hid (hN_d.out.grow hb37)
        replace hN_a := Lib.hid (hN_a.out.grow hb37)
        replace hN_a2 := Lib.hid (hN_a2.out.grow hb37)
        replace hN_x := Lib.hid (hN_x.out.grow hb37)
        replace hN_y := Lib.hid (hN_y.out.grow hb37)
        replace hN_z := Lib.hid (hN_z.out.grow hb37)
        clear S36 hb37
        go_wp2_with fail
        go_meet
        exact S37.out.below
  case rest =>
  have hcut1 := hcut
  clear S33 hN_d hN_a hN_a2 hcA hcB hok hra hna hne hcut hl_a hl_d hv0 hv1 hv2 hv3
  go_wp2_with fail
  refine (drawSet_any ca cl cc _ (hcH.out.grow hcut1.out) hsm).mono ?_
  rintro e w2 ⟨vars, r_d, l, ns_d, B_d, c_d, hv0, hv1, hv2, hv3, hl_d, rfl, hN_d, hb2⟩
  obtain ⟨b_d, hbd⟩ : ∃ b, w2.heap.size = b := ⟨_, rfl⟩
  have S50 := (Sp.of_below (btr hcut1.out hb2)).alloc_box #[.int .i64 r_d, .slice B_d ns_d.length c_d] 26
  rw [hbd] at S50
  replace S50 := Lib.hid S50
  replace hN_d := Lib.hid (hN_d.grow (bal (bb _) (.cells #[.int .i64 r_d, .slice B_d ns_d.length c_d] 26)))
  clear hb2 hcut1
  have hcA := Lib.hid (fun W x => setIn_any vars r_d l B_d c_d ns_d W x (by omega))
  have hcB := Lib.hid (fun W x => specSet_any vars r_d l B_d c_d ns_d W x (by omega))
  have hl_a := out_len (goodD vars r_d ns_d && litB vars l) hv1 (fun b => valD r_d ns_d (setL b l))
  generalize (goodD vars r_d ns_d && litB vars l) = ok at *
  generalize outR ok vars (fun b => valD r_d ns_d (setL b l)) = r_a at *
  generalize outN ok vars (fun b => valD r_d ns_d (setL b l)) = ns_a at *
  have heq : (ok == ok) = true := by cases ok <;> rfl
  have p_d_0 := S50.out.cell (i := 0) rfl (o := 0) rfl
  have p_d_1 := S50.out.cell (i := 0) rfl (o := 1) rfl
  go_wp2_with fail
  clear p_d_0 p_d_1
  refine (hcA.out _ hN_d.out).mono ?_
  rintro e w51 ⟨B_a, c_a, rfl, hN_a, -, hb51⟩
  obtain ⟨b_a, hbe51⟩ : ∃ b, w51.heap.size = b := ⟨_, rfl⟩
  have S51 := (S50.out.grow hb51).alloc_box #[.int .i64 r_a, .slice B_a ns_a.length c_a] 26
  rw [hbe51] at S51
  replace S51 := Lib.hid S51
  replace hN_d := Lib.hid (hN_d.out.grow (bal hb51 (.cells #[.int .i64 r_a, .slice B_a ns_a.length c_a] 26)))
  replace hN_a := Lib.hid (hN_a.grow (bal (bb _) (.cells #[.int .i64 r_a, .slice B_a ns_a.length c_a] 26)))
  clear S50 hb51
  have p_d_0 := S51.out.cell (i := 1) rfl (o := 0) rfl
  have p_d_1 := S51.out.cell (i := 1) rfl (o := 1) rfl
  go_wp2_with fail
  clear p_d_0 p_d_1
  refine (hcB.out _ hN_d.out).mono ?_
  rintro e w52 ⟨B_a2, c_a2, rfl, hN_a2, -, hb52⟩
  obtain ⟨b_a2, hbe52⟩ : ∃ b, w52.heap.size = b := ⟨_, rfl⟩
  have S52 := (S51.out.grow hb52).alloc_box #[.int .i64 r_a, .slice B_a2 ns_a.length c_a2] 26
  rw [hbe52] at S52
  replace S52 := Lib.hid S52
  replace hN_d := Lib.hid (hN_d.out.grow (bal hb52 (.cells #[.int .i64 r_a, .slice B_a2 ns_a.length c_a2] 26)))
  replace hN_a := Lib.hid (hN_a.out.grow (bal hb52 (.cells #[.int .i64 r_a, .slice B_a2 ns_a.length c_a2] 26)))
  replace hN_a2 := Lib.hid (hN_a2.grow (bal (bb _) (.cells #[.int .i64 r_a, .slice B_a2 ns_a.length c_a2] 26)))
  clear S51 hb52
  have p_a_0 := S52.out.cell (i := 1) rfl (o := 0) rfl
  have p_a_1 := S52.out.cell (i := 1) rfl (o := 1) rfl
  have p_a2_0 := S52.out.cell (i := 0) rfl (o := 0) rfl
  have p_a2_1 := S52.out.cell (i := 0) rfl (o := 1) rfl
  go_wp2_with fail
  clear p_a_0 p_a_1 p_a2_0 p_a2_1
  refine (vDiagram_same r_a B_a B_a2 c_a c_a2 ns_a _ hN_a.out hN_a2.out (by omega)).mono ?_
  rintro e w53 ⟨rfl, hb53⟩
  have S53 := Lib.hid (S52.out.grow hb53)
  replace hN_d := Lib.hid (hN_d.out.grow hb53)
  replace hN_a := Lib.hid (hN_a.out.grow hb53)
  replace hN_a2 := Lib.hid (hN_a2.out.grow hb53)
  clear S52 hb53
  go_wp2_with fail
  go_ret
  exact ⟨rfl, S53.out.below⟩
end Go.Proofs.Ytgcdifabbaoomaa
