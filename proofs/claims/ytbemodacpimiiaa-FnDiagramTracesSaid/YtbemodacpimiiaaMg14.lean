/- Lemmas and contracts for a law, put together out of several texts: WalkDiagramTraces. -/
import Derived.Test.YtbemodacpimiiaaMg13
import Derived.Deep.DeepCutAuto
/- The walk of FnDiagramTraces. Printed by gen_dtwalk.py. -/
namespace Go.Proofs.Ytbemodacpimiiaa
open Go.RowKit

set_option maxRecDepth 100000 in
set_option maxHeartbeats 16000000 in
theorem FnDiagramTraces_walk (ca : Option Addr) (cl cc : Nat) (w : World) (hc : CodeOk w ca cl) :
    Calls Try.prog 3 #[.slice ca cl cc] w fun e w' => e = .returned (.bool true) ∧ Below w.heap.size w w' := by
  have hcH := Lib.hid hc
  clear hc
  by_cases hbig : (65536 : Int) < (cl : Int)
  · go_enter Try.func3, Try.ntmps3
    go_wp2_with fail
    refine (vBig_any _ _ _ _).mono ?_
    rintro e w1 ⟨rfl, rfl⟩
    rw [decide_eq_true hbig]
    go_wp2_with fail
    go_ret
    exact ⟨rfl, bb _⟩
  have hsm : cl ≤ 65536 := by omega
  have hv := Lib.hid (decide_eq_false hbig)
  clear hbig
  go_enter Try.func3, Try.ntmps3
  go_wp2_with fail
  refine (vBig_any _ _ _ _).mono ?_
  rintro e w1 ⟨rfl, rfl⟩
  rw [hv.out]
  clear hv
  go_wp2_with fail
  refine (drawConjTrace_any ca cl cc w1 hcH.out hsm).mono ?_
  rintro e W0 ⟨vars, B, cap, cs, xss, rfl, hv0, hv1, hxl, HC, T⟩
  clear HC
  obtain ⟨F, hr, -, -⟩ := T.rows_done (i := 0) rfl
  have hR := Ty.row_down hr
  have S1 := (Sp.of_below T.below).alloc_box #[.int .i64 vars, .slice B xss.length cap] 26
  replace hR := Ty.row_grow hR (bal (bb _) (.cells #[.int .i64 vars, .slice B xss.length cap] 26))
  have t1 := fun W F (h : (Ty.slice Ty.int).row false W (.slice B xss.length cap) xss F) => (conjTrace_any vars _ xss F W h).mono fun e w' => TrTold.at
  have t2 := fun W F (h : (Ty.slice Ty.int).row false W (.slice B xss.length cap) xss F) => (specTrace_any vars _ xss F W h).mono fun e w' => TrTold.at
  have t3 := fun W F (h : (Ty.slice Ty.int).row false W (.slice B xss.length cap) xss F) => conjSizes_any vars _ xss F W h
  have t4 := fun W F (h : (Ty.slice Ty.int).row false W (.slice B xss.length cap) xss F) => specSizes_any vars _ xss F W h
  obtain ⟨ok, hok⟩ : ∃ ok, dCnf vars xss = ok := ⟨_, rfl⟩
  simp only [hok] at t1 t2 t3 t4
  have hsm2 := out_small hok
  obtain ⟨L, hL⟩ : ∃ L, outL ok vars xss = L := ⟨_, rfl⟩
  simp only [hL] at t1 t2 t3 t4 hsm2
  obtain ⟨z, hz⟩ : ∃ z, szL L = z := ⟨_, rfl⟩
  simp only [hz] at t3 t4
  have hzl : z.length = L.length := by rw [← hz, szL_len]
  have hLl : L.length ≤ 60 := hsm2.1
  replace hsm2 := Lib.hid hsm2.2
  replace t1 := Lib.hid t1
  replace t2 := Lib.hid t2
  replace t3 := Lib.hid t3
  replace t4 := Lib.hid t4
  replace hz := Lib.hid hz
  replace hok := Lib.hid hok
  replace hL := Lib.hid hL
  replace hzl := Lib.hid hzl
  replace hR := Lib.hid hR
  replace S1 := Lib.hid S1
  have c0 := S1.out.cell (i := 0) rfl (o := 0) rfl
  have c1 := S1.out.cell (i := 0) rfl (o := 1) rfl
  have e1 : (ok != ok) = false := by cases ok <;> rfl
  clear T hr
  go_wp2_with fail
  refine (t1.out _ _ hR.out).mono ?_
  rintro e wn ⟨A1, k1, rfl, hD, hb⟩
  replace hD := Lib.hid hD
  have T1 := S1.out.grow hb
  clear S1 c0 c1
  have c0 := T1.cell (i := 0) rfl (o := 0) rfl
  have c1 := T1.cell (i := 0) rfl (o := 1) rfl
  have S1 := Lib.hid T1
  clear T1
  replace hR := Lib.hid (Ty.row_grow hR.out hb)
  clear hb
  clear t1
  go_wp2_with fail
  refine (t2.out _ _ hR.out).mono ?_
  rintro e wn ⟨A2, k2, rfl, hE, hb⟩
  replace hE := Lib.hid hE
  have T1 := S1.out.grow hb
  clear S1 c0 c1
  have c0 := T1.cell (i := 0) rfl (o := 0) rfl
  have c1 := T1.cell (i := 0) rfl (o := 1) rfl
  have S1 := Lib.hid T1
  clear T1
  replace hR := Lib.hid (Ty.row_grow hR.out hb)
  replace hD := Lib.hid (hD.out.grow hb)
  clear hb
  clear t2
  go_wp2_with fail
  go_loopw [8] (fun i wo => ∃ j : Nat, j ≤ L.length ∧ i = .int .i64 (j : Int) ∧ Hid (Below wn.heap.size wn wo)) (fun i _ => L.length - (intOf i).toNat)
  case atStart => exact ⟨0, Nat.zero_le _, rfl, Lib.hid (bb _)⟩
  case round =>
    rename World => wr
    obtain ⟨j, hj, rfl, hbr⟩ := hrel
    by_cases hlt : j < L.length
    · obtain ⟨b, off, N, nc, rfl, m0, m1, mN⟩ := (hD.out.grow hbr.out).at_ j hlt
      obtain ⟨b', off', N', nc', rfl, p0, p1, pN⟩ := (hE.out.grow hbr.out).at_ j hlt
      have l1 := hsm2.out _ (List.getElem_mem hlt)
      generalize L[j].1 = r at *
      generalize L[j].2 = ns at *
      have k0 := cell_regrown m0
      have k1 := cell_regrown m1
      have q0 := cell_regrown p0
      have q1 := cell_regrown p1
      have hcall := Lib.hid (fun W hb => vDiagram_same r N N' nc nc' ns W (mN.grow hb) (pN.grow hb) (by omega))
      clear mN pN m0 m1 p0 p1
      go_wp2_with fail
      refine wp_region_quiet_below (by kernel_rfl) (by kernel_rfl) ?_
      repeat (any_goals (go_big_quiet_step ((go_at_call 11; exact Calls.regrown_of (hcall.out _ (below_regrown _ _ _))))))
      refine wpQuiet_nil ?_
      rintro w4 ⟨p, rfl⟩
      have HS2 := Lib.hid (hbr.out.trans ((below_regrown _ p.d p.os).mono hbr.out.size))
      clear hcall hbr k0 k1 q0 q1
      go_wp2_with fail
      go_roundw
      case rel => exact ⟨j + 1, by omega, by go_num, HS2⟩
      case measure => simp [intOf]; omega
    · obtain rfl : j = L.length := by omega
      have hb := hbr.out
      clear hbr hE hlt
      have T1 := S1.out.grow hb
      clear S1 c0 c1
      have c0 := T1.cell (i := 0) rfl (o := 0) rfl
      have c1 := T1.cell (i := 0) rfl (o := 1) rfl
      have S1 := Lib.hid T1
      clear T1
      replace hR := Lib.hid (Ty.row_grow hR.out hb)
      replace hD := Lib.hid (hD.out.grow hb)
      clear hb
      go_wp2_with fail
      refine (t3.out _ _ hR.out).mono ?_
      rintro e wn ⟨A3, k3, rfl, hZ, hb⟩
      replace hZ := Lib.hid hZ
      have T1 := S1.out.grow hb
      clear S1 c0 c1
      have c0 := T1.cell (i := 0) rfl (o := 0) rfl
      have c1 := T1.cell (i := 0) rfl (o := 1) rfl
      have S1 := Lib.hid T1
      clear T1
      replace hR := Lib.hid (Ty.row_grow hR.out hb)
      replace hD := Lib.hid (hD.out.grow hb)
      clear hb
      clear t3
      go_wp2_with fail
      refine (t4.out _ _ hR.out).mono ?_
      rintro e wn ⟨A4, k4, rfl, hY, hb⟩
      replace hY := Lib.hid hY
      have T1 := S1.out.grow hb
      clear S1 c0 c1
      have c0 := T1.cell (i := 0) rfl (o := 0) rfl
      have c1 := T1.cell (i := 0) rfl (o := 1) rfl
      have S1 := Lib.hid T1
      clear T1
      replace hR := Lib.hid (Ty.row_grow hR.out hb)
      replace hD := Lib.hid (hD.out.grow hb)
      replace hZ := Lib.hid (hZ.out.grow hb)
      clear hb
      clear t4
      have hvi := Lib.hid (fun W hb => vInts_same A3 A4 k3 k4 z W (hZ.out.grow hb) (hY.out.grow hb) (by have := hzl.out; omega))
      clear hY
      go_wp2_with fail
      refine (hvi.out _ (bb _)).mono ?_
      rintro e wn ⟨rfl, hb⟩
      have T1 := S1.out.grow hb
      clear S1 c0 c1
      have c0 := T1.cell (i := 0) rfl (o := 0) rfl
      have c1 := T1.cell (i := 0) rfl (o := 1) rfl
      have S1 := Lib.hid T1
      clear T1
      replace hR := Lib.hid (Ty.row_grow hR.out hb)
      replace hD := Lib.hid (hD.out.grow hb)
      replace hZ := Lib.hid (hZ.out.grow hb)
      clear hb
      clear hvi
      go_upto_region 17 with fail
      go_cut [98] (fun s wx => ∃ q : Bool, s = .bool q ∧ Hid (q = (ok && decide (0 < L.length))) ∧ wx = wn)
      case first =>
        cases ok
        · go_wp2_with fail
          go_meet
          exact ⟨false, rfl, rfl, rfl⟩
        · go_wp2_with fail
          go_meet
          exact ⟨decide (0 < L.length), rfl, rfl, rfl⟩
      case rest =>
        obtain ⟨q, rfl, hq, rfl⟩ := hcut
        go_upto_if 98 with fail
        go_cut [] (fun wx => Hid (Below w1.heap.size w1 wx))
        case first =>
          exact FnDiagramTraces_p1 _ _ _ _ _ _ _ _ _ _ _ _ _ _ _ _ _ _ _ _ _ _ _ hcH hsm hLl hsm2 hz hok hL hzl hq S1 hR hD hZ (by assumption) (fun _ _ d _ _ h => by cases d <;> exact h) (by assumption)
        case rest =>
          have hB := hcut
          clear hcut hq hok hL hz hzl hsm2 hR hD hZ S1 c0 c1 hv0 hv1 hxl hLl
          rename World => wc
          go_wp2_with fail
          refine (drawIsConjTrace_any ca cl cc _ (hcH.out.grow hB.out) hsm).mono ?_
          rintro e wn ⟨vars, B, cap, xss, F, A', c', es, rfl, hv0, hv1, hxl, -, hR, hD, hel, hes, hb⟩
          have hR2 := Ty.row_grow hR (bal (bb _) (.cells #[.int .i64 vars, .slice B xss.length cap] 26))
          have S1 := (Sp.of_below (btr hB.out hb)).alloc_box #[.int .i64 vars, .slice B xss.length cap] 26
          have hD2 := hD.grow (bal (bb _) (.cells #[.int .i64 vars, .slice B xss.length cap] 26))
          have hes2 : ∀ d ∈ es, d.2.length ≤ 1000000 := fun d hd => by have := hes d hd; omega
          have t1 := fun W F (h : (Ty.slice Ty.int).row false W (.slice B xss.length cap) xss F) (h2 : DgsAt W A' es) => isConjTrace_any vars _ xss F A' c' es W h h2 (by omega) hes2
          have t2 := fun W F (h : (Ty.slice Ty.int).row false W (.slice B xss.length cap) xss F) (h2 : DgsAt W A' es) => specIsTrace_any vars _ xss F A' c' es W h h2 (by omega) hes2
          generalize outQ (dCnf vars xss) (decide (outL (dCnf vars xss) vars xss = es)) = q at t1 t2
          generalize dCnf vars xss = ok at t1 t2
          replace t1 := Lib.hid t1
          replace t2 := Lib.hid t2
          have c0 := S1.cell (i := 0) rfl (o := 0) rfl
          have c1 := S1.cell (i := 0) rfl (o := 1) rfl
          have e1 : (ok == ok) = true := by cases ok <;> rfl
          have e2 : (q == q) = true := by cases q <;> rfl
          replace hD2 := Lib.hid hD2
          replace hR2 := Lib.hid hR2
          replace S1 := Lib.hid S1
          clear hR hD hB hb hes hes2 hel
          go_wp2_with fail
          refine (t1.out _ _ hR2.out hD2.out).mono ?_
          rintro e wn ⟨rfl, hb⟩
          have T1 := S1.out.grow hb
          clear S1 c0 c1
          have c0 := T1.cell (i := 0) rfl (o := 0) rfl
          have c1 := T1.cell (i := 0) rfl (o := 1) rfl
          replace hD2 := Lib.hid (hD2.out.grow hb)
          replace hR2 := Lib.hid (Ty.row_grow hR2.out hb)
          have hB := Lib.hid T1.below
          clear T1 hb t1
          go_wp2_with fail
          refine (t2.out _ _ hR2.out hD2.out).mono ?_
          rintro e wn ⟨rfl, hb⟩
          replace hB := Lib.hid (btr hB.out hb)
          clear hb t2 hD2 hR2 c0 c1
          go_wp2_with fail
          go_ret
          exact ⟨rfl, hB.out⟩
end Go.Proofs.Ytbemodacpimiiaa
