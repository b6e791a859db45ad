/- The walk of FnPlanes. -/
import Derived.Test.YtcdgpekefiplnaaPnR
import Derived.Deep.DeepCutAuto
namespace Go.Proofs.Ytcdgpekefiplnaa
open Go.RowKit

set_option maxRecDepth 100000 in
set_option maxHeartbeats 16000000 in
theorem FnPlanes_walk (ca : Option Addr) (cl cc : Nat) (w : World) (hc : CodeOk w ca cl) :
    Calls Try.prog 3 #[.slice ca cl cc] w fun e w' => e = .returned (.bool true) ∧ Below w.heap.size w w' := by
  have hcH := Lib.hid hc
  clear hc
  by_cases hbig : (65536 : Int) < (cl : Int)
  · go_enter Try.func3, Try.ntmps3
    go_wp2_with fail
    refine (rBig_any _ _ _ _).mono ?_
    rintro e w1 ⟨rfl, rfl⟩
    rw [decide_eq_true hbig]
    go_wp2_with fail
    go_ret
    exact ⟨rfl, bb _⟩
  have hsm : cl ≤ 65536 := by omega
  have hv := Lib.hid (decide_eq_false hbig)
  clear hbig
  go_enter Try.func3, Try.ntmps3
  go_wp2_with fail
  refine (rBig_any _ _ _ _).mono ?_
  rintro e w1 ⟨rfl, rfl⟩
  rw [hv.out]
  clear hv
  go_wp2_with fail
  refine (drawAddPlanes_any ca cl cc w1 hcH.out hsm).mono ?_
  rintro e w2 ⟨va, b_q, b_r, ns_q, ns_r, B_q, B_r, c_q, c_r, hv0, hv1, hl_q, hl_r, rfl, hN_q, hN_r, hb2⟩
  obtain ⟨b_Q, hbd⟩ : ∃ b, w2.heap.size = b := ⟨_, rfl⟩
  have S10 := ((Sp.of_below hb2).alloc_box #[.slice B_q ns_q.length c_q, .int .i64 b_q] 26).alloc_box #[.slice B_r ns_r.length c_r, .int .i64 b_r] 26
  simp only [World.size_alloc] at S10
  rw [hbd] at S10
  replace S10 := Lib.hid S10
  replace hN_q := Lib.hid (hN_q.grow (bal (bal (bb _) (.cells #[.slice B_q ns_q.length c_q, .int .i64 b_q] 26)) (.cells #[.slice B_r ns_r.length c_r, .int .i64 b_r] 26)))
  replace hN_r := Lib.hid (hN_r.grow (bal (bal (bb _) (.cells #[.slice B_q ns_q.length c_q, .int .i64 b_q] 26)) (.cells #[.slice B_r ns_r.length c_r, .int .i64 b_r] 26)))
  clear hb2
  obtain ⟨ok1, hok1⟩ : ∃ ok, (goodQ va b_q ns_q && goodQ va b_r ns_r && goodQ va (b_q + b_r) (addQ ns_q ns_r)) = ok := ⟨_, rfl⟩
  have hne1 : (ok1 != ok1) = false := by cases ok1 <;> rfl
  obtain ⟨es1, hes1⟩ : ∃ l, zq ok1 (addQ ns_q ns_r) = l := ⟨_, rfl⟩
  obtain ⟨z1, hz1⟩ : ∃ b, zb ok1 (b_q + b_r) = b := ⟨_, rfl⟩
  have hl1 : es1.length ≤ 14 := by rw [← hes1]; exact zq_len (by rw [add_len]; omega)
  have hA1 := Lib.hid (fun W x y => (addPlanesC_any va b_q b_r ns_q ns_r B_q B_r c_q c_r W x y (by omega) (by omega)).mono fun e w' h => h.ans hok1 hes1 hz1)
  have hB1 := Lib.hid (fun W x y => (specAddPlanes_any va b_q b_r ns_q ns_r B_q B_r c_q c_r W x y (by omega) (by omega)).mono fun e w' h => h.ans hok1 hes1 hz1)
  replace hok1 := Lib.hid hok1
  replace hes1 := Lib.hid hes1
  replace hz1 := Lib.hid hz1
  have p_q_0 := S10.out.cell (i := 1) rfl (o := 0) rfl
  have p_q_1 := S10.out.cell (i := 1) rfl (o := 1) rfl
  have p_r_0 := S10.out.cell (i := 0) rfl (o := 0) rfl
  have p_r_1 := S10.out.cell (i := 0) rfl (o := 1) rfl
  go_wp2_with fail
  clear p_q_0 p_q_1 p_r_0 p_r_1
  refine (hA1.out _ hN_q.out hN_r.out).mono ?_
  rintro e w11 ⟨B_s, c_s, rfl, hN_s, hb11⟩
  obtain ⟨b_s, hbe11⟩ : ∃ b, w11.heap.size = b := ⟨_, rfl⟩
  have S11 := (S10.out.grow hb11).alloc_box #[.slice B_s es1.length c_s, .int .i64 z1] 26
  rw [hbe11] at S11
  replace S11 := Lib.hid S11
  replace hN_q := Lib.hid (hN_q.out.grow (bal hb11 (.cells #[.slice B_s es1.length c_s, .int .i64 z1] 26)))
  replace hN_r := Lib.hid (hN_r.out.grow (bal hb11 (.cells #[.slice B_s es1.length c_s, .int .i64 z1] 26)))
  replace hN_s := Lib.hid (hN_s.grow (bal (bb _) (.cells #[.slice B_s es1.length c_s, .int .i64 z1] 26)))
  clear S10 hb11
  have p_q_0 := S11.out.cell (i := 2) rfl (o := 0) rfl
  have p_q_1 := S11.out.cell (i := 2) rfl (o := 1) rfl
  have p_r_0 := S11.out.cell (i := 1) rfl (o := 0) rfl
  have p_r_1 := S11.out.cell (i := 1) rfl (o := 1) rfl
  go_wp2_with fail
  clear p_q_0 p_q_1 p_r_0 p_r_1
  refine (hB1.out _ hN_q.out hN_r.out).mono ?_
  rintro e w12 ⟨B_s2, c_s2, rfl, hN_s2, hb12⟩
  obtain ⟨b_s2, hbe12⟩ : ∃ b, w12.heap.size = b := ⟨_, rfl⟩
  have S12 := (S11.out.grow hb12).alloc_box #[.slice B_s2 es1.length c_s2, .int .i64 z1] 26
  rw [hbe12] at S12
  replace S12 := Lib.hid S12
  replace hN_q := Lib.hid (hN_q.out.grow (bal hb12 (.cells #[.slice B_s2 es1.length c_s2, .int .i64 z1] 26)))
  replace hN_r := Lib.hid (hN_r.out.grow (bal hb12 (.cells #[.slice B_s2 es1.length c_s2, .int .i64 z1] 26)))
  replace hN_s := Lib.hid (hN_s.out.grow (bal hb12 (.cells #[.slice B_s2 es1.length c_s2, .int .i64 z1] 26)))
  replace hN_s2 := Lib.hid (hN_s2.grow (bal (bb _) (.cells #[.slice B_s2 es1.length c_s2, .int .i64 z1] 26)))
  clear S11 hb12
  have p_s_0 := S12.out.cell (i := 1) rfl (o := 0) rfl
  have p_s_1 := S12.out.cell (i := 1) rfl (o := 1) rfl
  have p_s2_0 := S12.out.cell (i := 0) rfl (o := 0) rfl
  have p_s2_1 := S12.out.cell (i := 0) rfl (o := 1) rfl
  go_wp2_with fail
  clear p_s_0 p_s_1 p_s2_0 p_s2_1
  refine (rInts_same B_s B_s2 c_s c_s2 es1 _ hN_s.out hN_s2.out (by omega)).mono ?_
  rintro e w13 ⟨rfl, hb13⟩
  have S13 := Lib.hid (S12.out.grow hb13)
  replace hN_q := Lib.hid (hN_q.out.grow hb13)
  replace hN_r := Lib.hid (hN_r.out.grow hb13)
  replace hN_s := Lib.hid (hN_s.out.grow hb13)
  replace hN_s2 := Lib.hid (hN_s2.out.grow hb13)
  clear S12 hb13
  clear hA1 hB1
  go_wp2_with fail
  refine (drawDividePlane_any ca cl cc _ (hcH.out.grow S13.out.below) hsm).mono ?_
  rintro e w3 ⟨vb, b_p, kp, ns_p, B_p, c_p, hv2, hv3, hl_p, hk0, hk1, rfl, hN_p, hb3⟩
  obtain ⟨b_P, hbP⟩ : ∃ b, w3.heap.size = b := ⟨_, rfl⟩
  have S20 := (S13.out.grow hb3).alloc_box #[.slice B_p ns_p.length c_p, .int .i64 b_p] 26
  rw [hbP] at S20
  replace S20 := Lib.hid S20
  replace hN_q := Lib.hid (hN_q.out.grow (bal hb3 (.cells #[.slice B_p ns_p.length c_p, .int .i64 b_p] 26)))
  replace hN_r := Lib.hid (hN_r.out.grow (bal hb3 (.cells #[.slice B_p ns_p.length c_p, .int .i64 b_p] 26)))
  replace hN_s := Lib.hid (hN_s.out.grow (bal hb3 (.cells #[.slice B_p ns_p.length c_p, .int .i64 b_p] 26)))
  replace hN_s2 := Lib.hid (hN_s2.out.grow (bal hb3 (.cells #[.slice B_p ns_p.length c_p, .int .i64 b_p] 26)))
  replace hN_p := Lib.hid (hN_p.grow (bal (bb _) (.cells #[.slice B_p ns_p.length c_p, .int .i64 b_p] 26)))
  clear S13 hb3
  obtain ⟨ok2, hok2⟩ : ∃ ok, (goodQ vb b_p ns_p && inB kp 2 1000 && !(ns_p.any fun c => c.tmod kp != 0)) = ok := ⟨_, rfl⟩
  have hne2 : (ok2 != ok2) = false := by cases ok2 <;> rfl
  obtain ⟨es2, hes2⟩ : ∃ l, zq ok2 (divQ kp ns_p) = l := ⟨_, rfl⟩
  obtain ⟨z2, hz2⟩ : ∃ b, zb ok2 (upQ b_p kp) = b := ⟨_, rfl⟩
  have hl2 : es2.length ≤ 14 := by rw [← hes2]; exact zq_len (by rw [div_len]; omega)
  have hA2 := Lib.hid (fun W x => (dividePlaneC_any vb b_p kp ns_p B_p c_p W x (by omega)).mono fun e w' h => h.ans hok2 hes2 hz2)
  have hB2 := Lib.hid (fun W x => (specDividePlane_any vb b_p kp ns_p B_p c_p W x (by omega)).mono fun e w' h => h.ans hok2 hes2 hz2)
  replace hok2 := Lib.hid hok2
  replace hes2 := Lib.hid hes2
  replace hz2 := Lib.hid hz2
  have p_p_0 := S20.out.cell (i := 0) rfl (o := 0) rfl
  have p_p_1 := S20.out.cell (i := 0) rfl (o := 1) rfl
  go_wp2_with fail
  clear p_p_0 p_p_1
  refine (hA2.out _ hN_p.out).mono ?_
  rintro e w21 ⟨B_t, c_t, rfl, hN_t, hb21⟩
  obtain ⟨b_t, hbe21⟩ : ∃ b, w21.heap.size = b := ⟨_, rfl⟩
  have S21 := (S20.out.grow hb21).alloc_box #[.slice B_t es2.length c_t, .int .i64 z2] 26
  rw [hbe21] at S21
  replace S21 := Lib.hid S21
  replace hN_q := Lib.hid (hN_q.out.grow (bal hb21 (.cells #[.slice B_t es2.length c_t, .int .i64 z2] 26)))
  replace hN_r := Lib.hid (hN_r.out.grow (bal hb21 (.cells #[.slice B_t es2.length c_t, .int .i64 z2] 26)))
  replace hN_s := Lib.hid (hN_s.out.grow (bal hb21 (.cells #[.slice B_t es2.length c_t, .int .i64 z2] 26)))
  replace hN_s2 := Lib.hid (hN_s2.out.grow (bal hb21 (.cells #[.slice B_t es2.length c_t, .int .i64 z2] 26)))
  replace hN_p := Lib.hid (hN_p.out.grow (bal hb21 (.cells #[.slice B_t es2.length c_t, .int .i64 z2] 26)))
  replace hN_t := Lib.hid (hN_t.grow (bal (bb _) (.cells #[.slice B_t es2.length c_t, .int .i64 z2] 26)))
  clear S20 hb21
  have p_p_0 := S21.out.cell (i := 1) rfl (o := 0) rfl
  have p_p_1 := S21.out.cell (i := 1) rfl (o := 1) rfl
  go_wp2_with fail
  clear p_p_0 p_p_1
  refine (hB2.out _ hN_p.out).mono ?_
  rintro e w22 ⟨B_t2, c_t2, rfl, hN_t2, hb22⟩
  obtain ⟨b_t2, hbe22⟩ : ∃ b, w22.heap.size = b := ⟨_, rfl⟩
  have S22 := (S21.out.grow hb22).alloc_box #[.slice B_t2 es2.length c_t2, .int .i64 z2] 26
  rw [hbe22] at S22
  replace S22 := Lib.hid S22
  replace hN_q := Lib.hid (hN_q.out.grow (bal hb22 (.cells #[.slice B_t2 es2.length c_t2, .int .i64 z2] 26)))
  replace hN_r := Lib.hid (hN_r.out.grow (bal hb22 (.cells #[.slice B_t2 es2.length c_t2, .int .i64 z2] 26)))
  replace hN_s := Lib.hid (hN_s.out.grow (bal hb22 (.cells #[.slice B_t2 es2.length c_t2, .int .i64 z2] 26)))
  replace hN_s2 := Lib.hid (hN_s2.out.grow (bal hb22 (.cells #[.slice B_t2 es2.length c_t2, .int .i64 z2] 26)))
  replace hN_p := Lib.hid (hN_p.out.grow (bal hb22 (.cells #[.slice B_t2 es2.length c_t2, .int .i64 z2] 26)))
  replace hN_t := Lib.hid (hN_t.out.grow (bal hb22 (.cells #[.slice B_t2 es2.length c_t2, .int .i64 z2] 26)))
  replace hN_t2 := Lib.hid (hN_t2.grow (bal (bb _) (.cells #[.slice B_t2 es2.length c_t2, .int .i64 z2] 26)))
  clear S21 hb22
  have p_t_0 := S22.out.cell (i := 1) rfl (o := 0) rfl
  have p_t_1 := S22.out.cell (i := 1) rfl (o := 1) rfl
  have p_t2_0 := S22.out.cell (i := 0) rfl (o := 0) rfl
  have p_t2_1 := S22.out.cell (i := 0) rfl (o := 1) rfl
  go_wp2_with fail
  clear p_t_0 p_t_1 p_t2_0 p_t2_1
  refine (rInts_same B_t B_t2 c_t c_t2 es2 _ hN_t.out hN_t2.out (by omega)).mono ?_
  rintro e w23 ⟨rfl, hb23⟩
  have S23 := Lib.hid (S22.out.grow hb23)
  replace hN_q := Lib.hid (hN_q.out.grow hb23)
  replace hN_r := Lib.hid (hN_r.out.grow hb23)
  replace hN_s := Lib.hid (hN_s.out.grow hb23)
  replace hN_s2 := Lib.hid (hN_s2.out.grow hb23)
  replace hN_p := Lib.hid (hN_p.out.grow hb23)
  replace hN_t := Lib.hid (hN_t.out.grow hb23)
  replace hN_t2 := Lib.hid (hN_t2.out.grow hb23)
  clear S22 hb23
  clear hA2 hB2
  go_wp2_with fail
  refine (drawOpposite_any ca cl cc _ (hcH.out.grow S23.out.below) hsm).mono ?_
  rintro e w4 ⟨vd, b_o, ns_o, B_o, c_o, hv4, hv5, hl_o, rfl, hN_o, -, hb4⟩
  obtain ⟨b_O, hbO⟩ : ∃ b, w4.heap.size = b := ⟨_, rfl⟩
  have S30 := (S23.out.grow hb4).alloc_box #[.slice B_o ns_o.length c_o, .int .i64 b_o] 26
  rw [hbO] at S30
  replace S30 := Lib.hid S30
  replace hN_q := Lib.hid (hN_q.out.grow (bal hb4 (.cells #[.slice B_o ns_o.length c_o, .int .i64 b_o] 26)))
  replace hN_r := Lib.hid (hN_r.out.grow (bal hb4 (.cells #[.slice B_o ns_o.length c_o, .int .i64 b_o] 26)))
  replace hN_s := Lib.hid (hN_s.out.grow (bal hb4 (.cells #[.slice B_o ns_o.length c_o, .int .i64 b_o] 26)))
  replace hN_s2 := Lib.hid (hN_s2.out.grow (bal hb4 (.cells #[.slice B_o ns_o.length c_o, .int .i64 b_o] 26)))
  replace hN_p := Lib.hid (hN_p.out.grow (bal hb4 (.cells #[.slice B_o ns_o.length c_o, .int .i64 b_o] 26)))
  replace hN_t := Lib.hid (hN_t.out.grow (bal hb4 (.cells #[.slice B_o ns_o.length c_o, .int .i64 b_o] 26)))
  replace hN_t2 := Lib.hid (hN_t2.out.grow (bal hb4 (.cells #[.slice B_o ns_o.length c_o, .int .i64 b_o] 26)))
  replace hN_o := Lib.hid (hN_o.grow (bal (bb _) (.cells #[.slice B_o ns_o.length c_o, .int .i64 b_o] 26)))
  clear S23 hb4
  obtain ⟨ok3, hok3⟩ : ∃ ok, (goodQ vd b_o ns_o && goodQ vd (1 - b_o) (mulQ (-1) ns_o)) = ok := ⟨_, rfl⟩
  have hne3 : (ok3 != ok3) = false := by cases ok3 <;> rfl
  obtain ⟨es3, hes3⟩ : ∃ l, zq ok3 (mulQ (-1) ns_o) = l := ⟨_, rfl⟩
  obtain ⟨z3, hz3⟩ : ∃ b, zb ok3 (1 - b_o) = b := ⟨_, rfl⟩
  have hl3 : es3.length ≤ 14 := by rw [← hes3]; exact zq_len (by rw [mul_len]; omega)
  have hA3 := Lib.hid (fun W x => (oppositePlane_any vd b_o ns_o B_o c_o W x (by omega)).mono fun e w' h => h.ans hok3 hes3 hz3)
  have hB3 := Lib.hid (fun W x => (specOppositePlane_any vd b_o ns_o B_o c_o W x (by omega)).mono fun e w' h => h.ans hok3 hes3 hz3)
  replace hok3 := Lib.hid hok3
  replace hes3 := Lib.hid hes3
  replace hz3 := Lib.hid hz3
  have p_o_0 := S30.out.cell (i := 0) rfl (o := 0) rfl
  have p_o_1 := S30.out.cell (i := 0) rfl (o := 1) rfl
  go_wp2_with fail
  clear p_o_0 p_o_1
  refine (hA3.out _ hN_o.out).mono ?_
  rintro e w31 ⟨B_u, c_u, rfl, hN_u, hb31⟩
  obtain ⟨b_u, hbe31⟩ : ∃ b, w31.heap.size = b := ⟨_, rfl⟩
  have S31 := (S30.out.grow hb31).alloc_box #[.slice B_u es3.length c_u, .int .i64 z3] 26
  rw [hbe31] at S31
  replace S31 := Lib.hid S31
  replace hN_q := Lib.hid (hN_q.out.grow (bal hb31 (.cells #[.slice B_u es3.length c_u, .int .i64 z3] 26)))
  replace hN_r := Lib.hid (hN_r.out.grow (bal hb31 (.cells #[.slice B_u es3.length c_u, .int .i64 z3] 26)))
  replace hN_s := Lib.hid (hN_s.out.grow (bal hb31 (.cells #[.slice B_u es3.length c_u, .int .i64 z3] 26)))
  replace hN_s2 := Lib.hid (hN_s2.out.grow (bal hb31 (.cells #[.slice B_u es3.length c_u, .int .i64 z3] 26)))
  replace hN_p := Lib.hid (hN_p.out.grow (bal hb31 (.cells #[.slice B_u es3.length c_u, .int .i64 z3] 26)))
  replace hN_t := Lib.hid (hN_t.out.grow (bal hb31 (.cells #[.slice B_u es3.length c_u, .int .i64 z3] 26)))
  replace hN_t2 := Lib.hid (hN_t2.out.grow (bal hb31 (.cells #[.slice B_u es3.length c_u, .int .i64 z3] 26)))
  replace hN_o := Lib.hid (hN_o.out.grow (bal hb31 (.cells #[.slice B_u es3.length c_u, .int .i64 z3] 26)))
  replace hN_u := Lib.hid (hN_u.grow (bal (bb _) (.cells #[.slice B_u es3.length c_u, .int .i64 z3] 26)))
  clear S30 hb31
  have p_o_0 := S31.out.cell (i := 1) rfl (o := 0) rfl
  have p_o_1 := S31.out.cell (i := 1) rfl (o := 1) rfl
  go_wp2_with fail
  clear p_o_0 p_o_1
  refine (hB3.out _ hN_o.out).mono ?_
  rintro e w32 ⟨B_u2, c_u2, rfl, hN_u2, hb32⟩
  obtain ⟨b_u2, hbe32⟩ : ∃ b, w32.heap.size = b := ⟨_, rfl⟩
  have S32 := (S31.out.grow hb32).alloc_box #[.slice B_u2 es3.length c_u2, .int .i64 z3] 26
  rw [hbe32] at S32
  replace S32 := Lib.hid S32
  replace hN_q := Lib.hid (hN_q.out.grow (bal hb32 (.cells #[.slice B_u2 es3.length c_u2, .int .i64 z3] 26)))
  replace hN_r := Lib.hid (hN_r.out.grow (bal hb32 (.cells #[.slice B_u2 es3.length c_u2, .int .i64 z3] 26)))
  replace hN_s := Lib.hid (hN_s.out.grow (bal hb32 (.cells #[.slice B_u2 es3.length c_u2, .int .i64 z3] 26)))
  replace hN_s2 := Lib.hid (hN_s2.out.grow (bal hb32 (.cells #[.slice B_u2 es3.length c_u2, .int .i64 z3] 26)))
  replace hN_p := Lib.hid (hN_p.out.grow (bal hb32 (.cells #[.slice B_u2 es3.length c_u2, .int .i64 z3] 26)))
  replace hN_t := Lib.hid (hN_t.out.grow (bal hb32 (.cells #[.slice B_u2 es3.length c_u2, .int .i64 z3] 26)))
  replace hN_t2 := Lib.hid (hN_t2.out.grow (bal hb32 (.cells #[.slice B_u2 es3.length c_u2, .int .i64 z3] 26)))
  replace hN_o := Lib.hid (hN_o.out.grow (bal hb32 (.cells #[.slice B_u2 es3.length c_u2, .int .i64 z3] 26)))
  replace hN_u := Lib.hid (hN_u.out.grow (bal hb32 (.cells #[.slice B_u2 es3.length c_u2, .int .i64 z3] 26)))
  replace hN_u2 := Lib.hid (hN_u2.grow (bal (bb _) (.cells #[.slice B_u2 es3.length c_u2, .int .i64 z3] 26)))
  clear S31 hb32
  have p_u_0 := S32.out.cell (i := 1) rfl (o := 0) rfl
  have p_u_1 := S32.out.cell (i := 1) rfl (o := 1) rfl
  have p_u2_0 := S32.out.cell (i := 0) rfl (o := 0) rfl
  have p_u2_1 := S32.out.cell (i := 0) rfl (o := 1) rfl
  go_wp2_with fail
  clear p_u_0 p_u_1 p_u2_0 p_u2_1
  refine (rInts_same B_u B_u2 c_u c_u2 es3 _ hN_u.out hN_u2.out (by omega)).mono ?_
  rintro e w33 ⟨rfl, hb33⟩
  have S33 := Lib.hid (S32.out.grow hb33)
  replace hN_q := Lib.hid (hN_q.out.grow hb33)
  replace hN_r := Lib.hid (hN_r.out.grow hb33)
  replace hN_s := Lib.hid (hN_s.out.grow hb33)
  replace hN_s2 := Lib.hid (hN_s2.out.grow hb33)
  replace hN_p := Lib.hid (hN_p.out.grow hb33)
  replace hN_t := Lib.hid (hN_t.out.grow hb33)
  replace hN_t2 := Lib.hid (hN_t2.out.grow hb33)
  replace hN_o := Lib.hid (hN_o.out.grow hb33)
  replace hN_u := Lib.hid (hN_u.out.grow hb33)
  replace hN_u2 := Lib.hid (hN_u2.out.grow hb33)
  clear S32 hb33
  clear hA3 hB3
  have HS0 : Hid (Sp w1 w33 [Box b_u2 26 #[.slice B_u2 es3.length c_u2, .int .i64 z3], Box b_u 26 #[.slice B_u es3.length c_u, .int .i64 z3], Box b_O 26 #[.slice B_o ns_o.length c_o, .int .i64 b_o], Box b_t2 26 #[.slice B_t2 es2.length c_t2, .int .i64 z2], Box b_t 26 #[.slice B_t es2.length c_t, .int .i64 z2], Box b_P 26 #[.slice B_p ns_p.length c_p, .int .i64 b_p], Box b_s2 26 #[.slice B_s2 es1.length c_s2, .int .i64 z1], Box b_s 26 #[.slice B_s es1.length c_s, .int .i64 z1], Box (b_Q + 1) 26 #[.slice B_r ns_r.length c_r, .int .i64 b_r], Box b_Q 26 #[.slice B_q ns_q.length c_q, .int .i64 b_q]]) := S33
  clear S33
  go_wp2_with fail
  go_loopw [23] (fun vk wr => ∃ k : Nat, k ≤ 64 ∧ vk = .int .i64 k ∧ Hid (Sp w1 wr [Box b_u2 26 #[.slice B_u2 es3.length c_u2, .int .i64 z3], Box b_u 26 #[.slice B_u es3.length c_u, .int .i64 z3], Box b_O 26 #[.slice B_o ns_o.length c_o, .int .i64 b_o], Box b_t2 26 #[.slice B_t2 es2.length c_t2, .int .i64 z2], Box b_t 26 #[.slice B_t es2.length c_t, .int .i64 z2], Box b_P 26 #[.slice B_p ns_p.length c_p, .int .i64 b_p], Box b_s2 26 #[.slice B_s2 es1.length c_s2, .int .i64 z1], Box b_s 26 #[.slice B_s es1.length c_s, .int .i64 z1], Box (b_Q + 1) 26 #[.slice B_r ns_r.length c_r, .int .i64 b_r], Box b_Q 26 #[.slice B_q ns_q.length c_q, .int .i64 b_q]]) ∧ Hid (Below w33.heap.size w33 wr)) (fun vk _ => 64 - (intOf vk).toNat)
  case atStart => exact ⟨0, by omega, rfl, HS0, bb _⟩
  case round =>
    clear HS0
    obtain ⟨k, hk, rfl, HS, HB⟩ := hrel
    by_cases hlt : (k : Int) < 64
    · have d0 : decide ((k : Int) < 64) = true := decide_eq_true hlt
      have hkw : IntKind.i64.wrap ((k : Int) + 1) = ((k + 1 : Nat) : Int) := by rw [IntWalk.i64_in _ (by omega)]; omega
      go_upto_region 21 with fail
      go_cut [174] (fun vt wx => ∃ b : Bool, vt = .bool b ∧ Hid (b = true → ok1 = true ∧ ∃ n : Nat, va = n ∧ n ≤ 12 ∧ k < 2 ^ n) ∧ Hid (Sp w1 wx [Box b_u2 26 #[.slice B_u2 es3.length c_u2, .int .i64 z3], Box b_u 26 #[.slice B_u es3.length c_u, .int .i64 z3], Box b_O 26 #[.slice B_o ns_o.length c_o, .int .i64 b_o], Box b_t2 26 #[.slice B_t2 es2.length c_t2, .int .i64 z2], Box b_t 26 #[.slice B_t es2.length c_t, .int .i64 z2], Box b_P 26 #[.slice B_p ns_p.length c_p, .int .i64 b_p], Box b_s2 26 #[.slice B_s2 es1.length c_s2, .int .i64 z1], Box b_s 26 #[.slice B_s es1.length c_s, .int .i64 z1], Box (b_Q + 1) 26 #[.slice B_r ns_r.length c_r, .int .i64 b_r], Box b_Q 26 #[.slice B_q ns_q.length c_q, .int .i64 b_q]]) ∧ Hid (Below w33.heap.size w33 wx))
      case first =>
        cases ok1
        · go_wp2_with fail
          go_meet
          exact ⟨false, rfl, Lib.hid (fun h => by cases h), HS, HB⟩
        · as_aux_lemma =>
            obtain ⟨h12, hg3⟩ := Bool.and_eq_true_iff.1 hok1.out
            obtain ⟨hg1, hg2⟩ := Bool.and_eq_true_iff.1 h12
            obtain ⟨n, rfl, hn12⟩ := good_12 hg1
            have hp := pow12 hn12
            have hsh := hp.1
            generalize hN : 2 ^ n = N at *
            by_cases hlt2 : k < N
            · have d1 : decide ((k : Int) < (N : Int)) = true := decide_eq_true (Int.ofNat_lt.2 hlt2)
              have hB : Hid (∃ m : Nat, (n : Int) = m ∧ m ≤ 12 ∧ k < 2 ^ m) := Lib.hid ⟨n, rfl, hn12, by rw [hN]; exact hlt2⟩
              clear hN hp
              go_wp2_with fail
              go_meet
              exact ⟨true, rfl, Lib.hid (fun _ => ⟨by simp, hB.out⟩), HS, HB⟩
            · have d1 : decide ((k : Int) < (N : Int)) = false := decide_eq_false (fun h => hlt2 (Int.ofNat_lt.1 h))
              clear hN hp
              go_wp2_with fail
              go_meet
              exact ⟨false, rfl, Lib.hid (fun h => by cases h), HS, HB⟩
      case rest =>
      clear HS HB
      obtain ⟨bt, rfl, hbt, HS, HB⟩ := hcut
      go_upto_if 174 with fail
      go_cut [] (fun wx => Hid (Sp w1 wx [Box b_u2 26 #[.slice B_u2 es3.length c_u2, .int .i64 z3], Box b_u 26 #[.slice B_u es3.length c_u, .int .i64 z3], Box b_O 26 #[.slice B_o ns_o.length c_o, .int .i64 b_o], Box b_t2 26 #[.slice B_t2 es2.length c_t2, .int .i64 z2], Box b_t 26 #[.slice B_t es2.length c_t, .int .i64 z2], Box b_P 26 #[.slice B_p ns_p.length c_p, .int .i64 b_p], Box b_s2 26 #[.slice B_s2 es1.length c_s2, .int .i64 z1], Box b_s 26 #[.slice B_s es1.length c_s, .int .i64 z1], Box (b_Q + 1) 26 #[.slice B_r ns_r.length c_r, .int .i64 b_r], Box b_Q 26 #[.slice B_q ns_q.length c_q, .int .i64 b_q]]) ∧ Hid (Below w33.heap.size w33 wx))
      case first =>
        cases bt
        · go_wp2_with fail
          go_meet
          exact ⟨HS, HB⟩
        · as_aux_lemma =>
            obtain ⟨he, n, hen, hn12, hlt2⟩ := hbt.out rfl
            subst he
            subst hen
            clear hbt
            obtain ⟨h12, hg3⟩ := Bool.and_eq_true_iff.1 hok1.out
            obtain ⟨hg1, hg2⟩ := Bool.and_eq_true_iff.1 h12
            have ees : es1 = addQ ns_q ns_r := hes1.out.symm
            have ez : z1 = b_q + b_r := hz1.out.symm
            rw [← ees, ← ez] at hg3
            have hlw := Lib.hid (hold_add (m := k) hg1 hg2)
            rw [← ees, ← ez] at hlw
            clear ees ez h12 hok1 hes1 hz1
            have hh0 := Lib.hid (fun W x => holdsAt_any n b_q ns_q hg1 k hlt2 B_q c_q W x)
            have hh1 := Lib.hid (fun W x => holdsAt_any n b_r ns_r hg2 k hlt2 B_r c_r W x)
            have hh2 := Lib.hid (fun W x => holdsAt_any n z1 es1 hg3 k hlt2 B_s c_s W x)
            generalize holdsQ ns_q b_q k = x0 at *
            generalize holdsQ ns_r b_r k = x1 at *
            generalize holdsQ es1 z1 k = x2 at *
            clear hlt2
            have p0 := HS.out.cell (i := 9) rfl (o := 0) rfl
            have p1 := HS.out.cell (i := 9) rfl (o := 1) rfl
            go_wp2_with fail
            clear p0 p1
            refine (hh0.out _ (hN_q.out.grow HB.out)).mono ?_
            rintro e v0 ⟨rfl, hq0⟩
            have T0 := Lib.hid (HS.out.grow hq0)
            have HB0 := Lib.hid (btr HB.out hq0)
            clear HS HB hq0
            have p0 := T0.out.cell (i := 8) rfl (o := 0) rfl
            have p1 := T0.out.cell (i := 8) rfl (o := 1) rfl
            go_wp2_with fail
            clear p0 p1
            refine (hh1.out _ (hN_r.out.grow HB0.out)).mono ?_
            rintro e v1 ⟨rfl, hq1⟩
            have T1 := Lib.hid (T0.out.grow hq1)
            have HB1 := Lib.hid (btr HB0.out hq1)
            clear T0 HB0 hq1
            have p0 := T1.out.cell (i := 7) rfl (o := 0) rfl
            have p1 := T1.out.cell (i := 7) rfl (o := 1) rfl
            go_wp2_with fail
            clear p0 p1
            refine (hh2.out _ (hN_s.out.grow HB1.out)).mono ?_
            rintro e v2 ⟨rfl, hq2⟩
            have T2 := Lib.hid (T1.out.grow hq2)
            have HB2 := Lib.hid (btr HB1.out hq2)
            clear T1 HB1 hq2
            have hxx := bool3 hlw.out
            clear hlw
            rcases hxx with ⟨rfl, rfl, rfl⟩ | rfl | ⟨rfl, rfl⟩
            all_goals
              go_wp2_with fail
              go_meet
              exact ⟨T2, HB2⟩
      case rest =>
      clear HS HB
      obtain ⟨HS, HB⟩ := hcut
      go_upto_region 27 with fail
      go_cut [222] (fun vt wx => ∃ b : Bool, vt = .bool b ∧ Hid (b = true → ok2 = true ∧ ∃ n : Nat, vb = n ∧ n ≤ 12 ∧ k < 2 ^ n) ∧ Hid (Sp w1 wx [Box b_u2 26 #[.slice B_u2 es3.length c_u2, .int .i64 z3], Box b_u 26 #[.slice B_u es3.length c_u, .int .i64 z3], Box b_O 26 #[.slice B_o ns_o.length c_o, .int .i64 b_o], Box b_t2 26 #[.slice B_t2 es2.length c_t2, .int .i64 z2], Box b_t 26 #[.slice B_t es2.length c_t, .int .i64 z2], Box b_P 26 #[.slice B_p ns_p.length c_p, .int .i64 b_p], Box b_s2 26 #[.slice B_s2 es1.length c_s2, .int .i64 z1], Box b_s 26 #[.slice B_s es1.length c_s, .int .i64 z1], Box (b_Q + 1) 26 #[.slice B_r ns_r.length c_r, .int .i64 b_r], Box b_Q 26 #[.slice B_q ns_q.length c_q, .int .i64 b_q]]) ∧ Hid (Below w33.heap.size w33 wx))
      case first =>
        cases ok2
        · go_wp2_with fail
          go_meet
          exact ⟨false, rfl, Lib.hid (fun h => by cases h), HS, HB⟩
        · as_aux_lemma =>
            obtain ⟨h12, hg3⟩ := Bool.and_eq_true_iff.1 hok2.out
            obtain ⟨hg1, hg2⟩ := Bool.and_eq_true_iff.1 h12
            obtain ⟨n, rfl, hn12⟩ := good_12 hg1
            have hp := pow12 hn12
            have hsh := hp.1
            generalize hN : 2 ^ n = N at *
            by_cases hlt2 : k < N
            · have d1 : decide ((k : Int) < (N : Int)) = true := decide_eq_true (Int.ofNat_lt.2 hlt2)
              have hB : Hid (∃ m : Nat, (n : Int) = m ∧ m ≤ 12 ∧ k < 2 ^ m) := Lib.hid ⟨n, rfl, hn12, by rw [hN]; exact hlt2⟩
              clear hN hp
              go_wp2_with fail
              go_meet
              exact ⟨true, rfl, Lib.hid (fun _ => ⟨by simp, hB.out⟩), HS, HB⟩
            · have d1 : decide ((k : Int) < (N : Int)) = false := decide_eq_false (fun h => hlt2 (Int.ofNat_lt.1 h))
              clear hN hp
              go_wp2_with fail
              go_meet
              exact ⟨false, rfl, Lib.hid (fun h => by cases h), HS, HB⟩
      case rest =>
      clear HS HB
      obtain ⟨bt, rfl, hbt, HS, HB⟩ := hcut
      go_upto_if 222 with fail
      go_cut [] (fun wx => Hid (Sp w1 wx [Box b_u2 26 #[.slice B_u2 es3.length c_u2, .int .i64 z3], Box b_u 26 #[.slice B_u es3.length c_u, .int .i64 z3], Box b_O 26 #[.slice B_o ns_o.length c_o, .int .i64 b_o], Box b_t2 26 #[.slice B_t2 es2.length c_t2, .int .i64 z2], Box b_t 26 #[.slice B_t es2.length c_t, .int .i64 z2], Box b_P 26 #[.slice B_p ns_p.length c_p, .int .i64 b_p], Box b_s2 26 #[.slice B_s2 es1.length c_s2, .int .i64 z1], Box b_s 26 #[.slice B_s es1.length c_s, .int .i64 z1], Box (b_Q + 1) 26 #[.slice B_r ns_r.length c_r, .int .i64 b_r], Box b_Q 26 #[.slice B_q ns_q.length c_q, .int .i64 b_q]]) ∧ Hid (Below w33.heap.size w33 wx))
      case first =>
        cases bt
        · go_wp2_with fail
          go_meet
          exact ⟨HS, HB⟩
        · as_aux_lemma =>
            obtain ⟨he, n, hen, hn12, hlt2⟩ := hbt.out rfl
            subst he
            subst hen
            clear hbt
            obtain ⟨h12, hg3⟩ := Bool.and_eq_true_iff.1 hok2.out
            obtain ⟨hg1, hg2⟩ := Bool.and_eq_true_iff.1 h12
            have ees : es2 = divQ kp ns_p := hes2.out.symm
            have ez : z2 = upQ b_p kp := hz2.out.symm
            have hkp := inB_true.1 hg2
            have hg4 := div_good hkp.1 hg1
            rw [← ees, ← ez] at hg4
            have hlw := Lib.hid (divQ_holds (b := b_p) (bits := k) (Int.lt_of_lt_of_le (by decide : (0 : Int) < 2) hkp.1) (div_some hg3))
            rw [← ees, ← ez] at hlw
            clear ees ez h12 hok2 hes2 hz2 hg2 hg3 hkp
            have hh0 := Lib.hid (fun W x => holdsAt_any n b_p ns_p hg1 k hlt2 B_p c_p W x)
            have hh1 := Lib.hid (fun W x => holdsAt_any n z2 es2 hg4 k hlt2 B_t c_t W x)
            generalize holdsQ ns_p b_p k = x0 at *
            generalize holdsQ es2 z2 k = x1 at *
            clear hlt2
            have p0 := HS.out.cell (i := 5) rfl (o := 0) rfl
            have p1 := HS.out.cell (i := 5) rfl (o := 1) rfl
            go_wp2_with fail
            clear p0 p1
            refine (hh0.out _ (hN_p.out.grow HB.out)).mono ?_
            rintro e v0 ⟨rfl, hq0⟩
            have T0 := Lib.hid (HS.out.grow hq0)
            have HB0 := Lib.hid (btr HB.out hq0)
            clear HS HB hq0
            have p0 := T0.out.cell (i := 4) rfl (o := 0) rfl
            have p1 := T0.out.cell (i := 4) rfl (o := 1) rfl
            go_wp2_with fail
            clear p0 p1
            refine (hh1.out _ (hN_t.out.grow HB0.out)).mono ?_
            rintro e v1 ⟨rfl, hq1⟩
            have T1 := Lib.hid (T0.out.grow hq1)
            have HB1 := Lib.hid (btr HB0.out hq1)
            clear T0 HB0 hq1
            obtain rfl := hlw.out
            clear hlw
            have hnn : (x1 != x1) = false := by cases x1 <;> rfl
            all_goals
              go_wp2_with fail
              go_meet
              exact ⟨T1, HB1⟩
      case rest =>
      clear HS HB
      obtain ⟨HS, HB⟩ := hcut
      go_upto_region 32 with fail
      go_cut [254] (fun vt wx => ∃ b : Bool, vt = .bool b ∧ Hid (b = true → ok3 = true ∧ ∃ n : Nat, vd = n ∧ n ≤ 12 ∧ k < 2 ^ n) ∧ Hid (Sp w1 wx [Box b_u2 26 #[.slice B_u2 es3.length c_u2, .int .i64 z3], Box b_u 26 #[.slice B_u es3.length c_u, .int .i64 z3], Box b_O 26 #[.slice B_o ns_o.length c_o, .int .i64 b_o], Box b_t2 26 #[.slice B_t2 es2.length c_t2, .int .i64 z2], Box b_t 26 #[.slice B_t es2.length c_t, .int .i64 z2], Box b_P 26 #[.slice B_p ns_p.length c_p, .int .i64 b_p], Box b_s2 26 #[.slice B_s2 es1.length c_s2, .int .i64 z1], Box b_s 26 #[.slice B_s es1.length c_s, .int .i64 z1], Box (b_Q + 1) 26 #[.slice B_r ns_r.length c_r, .int .i64 b_r], Box b_Q 26 #[.slice B_q ns_q.length c_q, .int .i64 b_q]]) ∧ Hid (Below w33.heap.size w33 wx))
      case first =>
        cases ok3
        · go_wp2_with fail
          go_meet
          exact ⟨false, rfl, Lib.hid (fun h => by cases h), HS, HB⟩
        · as_aux_lemma =>
            obtain ⟨hg1, hg2⟩ := Bool.and_eq_true_iff.1 hok3.out
            obtain ⟨n, rfl, hn12⟩ := good_12 hg1
            have hp := pow12 hn12
            have hsh := hp.1
            generalize hN : 2 ^ n = N at *
            by_cases hlt2 : k < N
            · have d1 : decide ((k : Int) < (N : Int)) = true := decide_eq_true (Int.ofNat_lt.2 hlt2)
              have hB : Hid (∃ m : Nat, (n : Int) = m ∧ m ≤ 12 ∧ k < 2 ^ m) := Lib.hid ⟨n, rfl, hn12, by rw [hN]; exact hlt2⟩
              clear hN hp
              go_wp2_with fail
              go_meet
              exact ⟨true, rfl, Lib.hid (fun _ => ⟨by simp, hB.out⟩), HS, HB⟩
            · have d1 : decide ((k : Int) < (N : Int)) = false := decide_eq_false (fun h => hlt2 (Int.ofNat_lt.1 h))
              clear hN hp
              go_wp2_with fail
              go_meet
              exact ⟨false, rfl, Lib.hid (fun h => by cases h), HS, HB⟩
      case rest =>
      clear HS HB
      obtain ⟨bt, rfl, hbt, HS, HB⟩ := hcut
      go_upto_if 254 with fail
      cases bt
      · go_wp2_with fail
        go_roundw
        case rel => exact ⟨k + 1, by omega, rfl, HS, HB⟩
        case measure => simp [intOf]; omega
      · as_aux_lemma =>
          obtain ⟨he, n, hen, hn12, hlt2⟩ := hbt.out rfl
          subst he
          subst hen
          clear hbt
          obtain ⟨hg1, hg2⟩ := Bool.and_eq_true_iff.1 hok3.out
          have ees : es3 = mulQ (-1) ns_o := hes3.out.symm
          have ez : z3 = 1 - b_o := hz3.out.symm
          rw [← ees, ← ez] at hg2
          have hlw := Lib.hid (negQ_holds (cs := ns_o) (b := b_o) (bits := k))
          rw [← ees, ← ez] at hlw
          clear ees ez hok3 hes3 hz3
          have hh0 := Lib.hid (fun W x => holdsAt_any n b_o ns_o hg1 k hlt2 B_o c_o W x)
          have hh1 := Lib.hid (fun W x => holdsAt_any n z3 es3 hg2 k hlt2 B_u c_u W x)
          generalize holdsQ ns_o b_o k = x0 at *
          generalize holdsQ es3 z3 k = x1 at *
          clear hlt2
          have p0 := HS.out.cell (i := 2) rfl (o := 0) rfl
          have p1 := HS.out.cell (i := 2) rfl (o := 1) rfl
          go_wp2_with fail
          clear p0 p1
          refine (hh0.out _ (hN_o.out.grow HB.out)).mono ?_
          rintro e v0 ⟨rfl, hq0⟩
          have T0 := Lib.hid (HS.out.grow hq0)
          have HB0 := Lib.hid (btr HB.out hq0)
          clear HS HB hq0
          have p0 := T0.out.cell (i := 1) rfl (o := 0) rfl
          have p1 := T0.out.cell (i := 1) rfl (o := 1) rfl
          go_wp2_with fail
          clear p0 p1
          refine (hh1.out _ (hN_u.out.grow HB0.out)).mono ?_
          rintro e v1 ⟨rfl, hq1⟩
          have T1 := Lib.hid (T0.out.grow hq1)
          have HB1 := Lib.hid (btr HB0.out hq1)
          clear T0 HB0 hq1
          obtain rfl := hlw.out
          clear hlw
          have hnn : (x0 == !x0) = false := by cases x0 <;> rfl
          all_goals
            go_wp2_with fail
            go_roundw
            case rel => exact ⟨k + 1, by omega, rfl, T1, HB1⟩
            case measure => simp [intOf]; omega
    · have d0 : decide ((k : Int) < 64) = false := decide_eq_false hlt
      as_aux_lemma =>
        have hbel := Lib.hid HS.out.below
        clear HS HB hN_q hN_r hN_s hN_s2 hN_p hN_t hN_t2 hN_o hN_u hN_u2 hok1 hes1 hz1 hok2 hes2 hz2 hok3 hes3 hz3 hne1 hne2 hne3
        go_wp2_with fail
        refine (drawPlaneOfClause_any ca cl cc _ (hcH.out.grow hbel.out) hsm).mono ?_
        rintro e w5 ⟨ve, c, B_c, c_c, F, rfl, hv6, hv7, hr, hF, hl_c, hb5⟩
        have hX := Lib.hid (btr hbel.out hb5)
        obtain ⟨ok4, hok4⟩ : ∃ ok, clauseB ve c = ok := ⟨_, rfl⟩
        have hne4 : (ok4 != ok4) = false := by cases ok4 <;> rfl
        obtain ⟨es4, hes4⟩ : ∃ l, zq ok4 (clQ ve.toNat c).1 = l := ⟨_, rfl⟩
        obtain ⟨z4, hz4⟩ : ∃ b, zb ok4 (clQ ve.toNat c).2 = b := ⟨_, rfl⟩
        have hl4 : es4.length ≤ 14 := by rw [← hes4]; exact zq_len (by rw [(clQ_facts _ _).1]; omega)
        have hA4 := Lib.hid (fun W x => (planeOfClause_any ve c B_c c_c F W x).mono fun e w' h => h.ans hok4 hes4 hz4)
        have hB4 := Lib.hid (fun W x => (specPlaneOfClause_any ve c B_c c_c F W x).mono fun e w' h => h.ans hok4 hes4 hz4)
        replace hok4 := Lib.hid hok4
        replace hes4 := Lib.hid hes4
        replace hz4 := Lib.hid hz4
        have hrH := Lib.hid hr
        clear hr hbel hb5 hF
        have S40 := Lib.hid (Sp.of_below hX.out)
        clear hX
        go_wp2_with fail
        refine (hA4.out _ (Ty.row_down hrH.out)).mono ?_
        rintro e w41 ⟨B_x, c_x, rfl, hN_x, hb41⟩
        obtain ⟨b_x, hbe41⟩ : ∃ b, w41.heap.size = b := ⟨_, rfl⟩
        have S41 := (S40.out.grow hb41).alloc_box #[.slice B_x es4.length c_x, .int .i64 z4] 26
        rw [hbe41] at S41
        replace S41 := Lib.hid S41
        replace hrH := Lib.hid (Ty.row_grow hrH.out (bal hb41 (.cells #[.slice B_x es4.length c_x, .int .i64 z4] 26)))
        replace hN_x := Lib.hid (hN_x.grow (bal (bb _) (.cells #[.slice B_x es4.length c_x, .int .i64 z4] 26)))
        clear S40 hb41
        go_wp2_with fail
        refine (hB4.out _ (Ty.row_down hrH.out)).mono ?_
        rintro e w42 ⟨B_x2, c_x2, rfl, hN_x2, hb42⟩
        obtain ⟨b_x2, hbe42⟩ : ∃ b, w42.heap.size = b := ⟨_, rfl⟩
        have S42 := (S41.out.grow hb42).alloc_box #[.slice B_x2 es4.length c_x2, .int .i64 z4] 26
        rw [hbe42] at S42
        replace S42 := Lib.hid S42
        replace hN_x := Lib.hid (hN_x.out.grow (bal hb42 (.cells #[.slice B_x2 es4.length c_x2, .int .i64 z4] 26)))
        replace hrH := Lib.hid (Ty.row_grow hrH.out (bal hb42 (.cells #[.slice B_x2 es4.length c_x2, .int .i64 z4] 26)))
        replace hN_x2 := Lib.hid (hN_x2.grow (bal (bb _) (.cells #[.slice B_x2 es4.length c_x2, .int .i64 z4] 26)))
        clear S41 hb42
        have p_x_0 := S42.out.cell (i := 1) rfl (o := 0) rfl
        have p_x_1 := S42.out.cell (i := 1) rfl (o := 1) rfl
        have p_x2_0 := S42.out.cell (i := 0) rfl (o := 0) rfl
        have p_x2_1 := S42.out.cell (i := 0) rfl (o := 1) rfl
        go_wp2_with fail
        clear p_x_0 p_x_1 p_x2_0 p_x2_1
        refine (rInts_same B_x B_x2 c_x c_x2 es4 _ hN_x.out hN_x2.out (by omega)).mono ?_
        rintro e w43 ⟨rfl, hb43⟩
        have S43 := Lib.hid (S42.out.grow hb43)
        replace hN_x := Lib.hid (hN_x.out.grow hb43)
        replace hN_x2 := Lib.hid (hN_x2.out.grow hb43)
        replace hrH := Lib.hid (Ty.row_grow hrH.out hb43)
        clear S42 hb43
        clear hA4 hB4
        cases ok4
        · have hB := Lib.hid S43.out.below
          clear S43 hrH
          go_wp2_with fail
          go_ret
          exact ⟨rfl, hB.out⟩
        · have hgc := hok4.out
          obtain ⟨hvv, -, -⟩ := clause_parts hgc
          obtain ⟨n, rfl⟩ := Int.eq_ofNat_of_zero_le hvv.1
          have hn12 : n ≤ 12 := by omega
          have hsh := (pow12 hn12).1
          have hp12 := (pow12 hn12).2
          have ees : es4 = (clQ n c).1 := hes4.out.symm
          have ez : z4 = (clQ n c).2 := hz4.out.symm
          have hg := clQ_good hgc
          have hcnt := clQ_count hgc
          rw [← ees, ← ez] at hg hcnt
          have hA5 := Lib.hid (fun W x => countHolding_any n z4 es4 hg B_x c_x W x)
          have hC5 := Lib.hid (fun W x => leftRange_any n z4 es4 hg B_x c_x W x)
          have hM5 := Lib.hid (fun W (v : Value) F (x : (Ty.slice Ty.int).row false W v [c] F) => countCnfModels_any (n : Int) v [c] F W x (one_good hgc))
          rw [show (n : Int).toNat = n by omega] at hM5
          rw [← hcnt] at hM5
          have hhi := Lib.hid (fun h => high_no (cs := es4) (b := z4) (k := 2 ^ n) h)
          have hlo := Lib.hid (fun h => low_all (cs := es4) (b := z4) (k := 2 ^ n) h)
          have hcle := cntP_le (holdsQ es4 z4) (2 ^ n)
          generalize cntP (holdsQ es4 z4) (2 ^ n) = m at *
          generalize highK es4 es4.length = hi at *
          generalize lowK es4 es4.length = lo at *
          obtain ⟨N, hN⟩ : ∃ N, 2 ^ n = N := ⟨_, rfl⟩
          rw [hN] at hlo hsh hp12 hcle
          replace hN := Lib.hid hN
          clear ees ez hes4 hz4 hcnt hg hok4 hgc
          have p0 := S43.out.cell (i := 1) rfl (o := 0) rfl
          have p1 := S43.out.cell (i := 1) rfl (o := 1) rfl
          go_wp2_with fail
          clear p0 p1
          refine (hA5.out _ hN_x.out).mono ?_
          rintro e v0 ⟨rfl, hq0⟩
          have S44 := Lib.hid (S43.out.grow hq0)
          have hrK := Ty.row_grow hrH.out hq0
          obtain ⟨F', hR⟩ := row_one hrK 24
          replace hR := Lib.hid hR
          replace hN_x := Lib.hid (hN_x.out.grow hq0)
          clear S43 hq0 hrH hrK hA5
          go_wp2_with fail
          refine (hM5.out _ _ _ hR.out).mono ?_
          rintro e v1 ⟨rfl, hq1⟩
          have S45 := Lib.hid ((S44.out.alloc (.cells #[.slice B_c c.length c_c] 24)).grow hq1)
          replace hN_x := Lib.hid (hN_x.out.grow (btr (bal (bb _) _) hq1))
          clear S44 hq1 hR hM5
          have p0 := S45.out.cell (i := 1) rfl (o := 0) rfl
          have p1 := S45.out.cell (i := 1) rfl (o := 1) rfl
          go_wp2_with fail
          clear p0 p1
          refine (hC5.out _ hN_x.out).mono ?_
          rintro e v2 ⟨rfl, hq2⟩
          have S46 := Lib.hid (S45.out.grow hq2)
          clear S45 hq2 hN_x hC5
          have p0 := S46.out.cell (i := 1) rfl (o := 0) rfl
          have p1 := S46.out.cell (i := 1) rfl (o := 1) rfl
          have hB := Lib.hid S46.out.below
          clear S46
          have e0 : ((m : Int) != (m : Int)) = false := by simp
          by_cases h1 : hi < z4
          · have hm := hhi.out h1
            have d1 : decide (hi < z4) = true := decide_eq_true h1
            by_cases h2 : z4 ≤ lo
            · have hm2 := hlo.out h2
              have d3 : decide (z4 ≤ lo) = true := decide_eq_true h2
              clear h1 h2
              subst hm
              subst hm2
              clear hhi hlo
              as_aux_lemma =>
                go_wp2_with fail
                go_ret
                exact ⟨rfl, hB.out⟩
            · have d3 : decide (z4 ≤ lo) = false := decide_eq_false h2
              clear h1 h2
              subst hm
              clear hhi hlo
              as_aux_lemma =>
                go_wp2_with fail
                go_ret
                exact ⟨rfl, hB.out⟩
          · have d1 : decide (hi < z4) = false := decide_eq_false h1
            by_cases h2 : z4 ≤ lo
            · have hm2 := hlo.out h2
              have d3 : decide (z4 ≤ lo) = true := decide_eq_true h2
              clear h1 h2
              subst hm2
              clear hhi hlo
              as_aux_lemma =>
                go_wp2_with fail
                go_ret
                exact ⟨rfl, hB.out⟩
            · have d3 : decide (z4 ≤ lo) = false := decide_eq_false h2
              clear h1 h2
              clear hhi hlo
              as_aux_lemma =>
                go_wp2_with fail
                go_ret
                exact ⟨rfl, hB.out⟩
end Go.Proofs.Ytcdgpekefiplnaa
