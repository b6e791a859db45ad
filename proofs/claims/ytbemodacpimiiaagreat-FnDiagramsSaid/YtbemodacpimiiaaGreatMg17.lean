/- Lemmas and contracts for a law, put together out of several texts: WalkDiagrams. -/
import Derived.Test.YtbemodacpimiiaaGreatMg16
import Derived.Deep.DeepCutAuto
/- The walk of FnDiagrams. Printed by gen_duwalk.py. -/
namespace Go.Proofs.YtbemodacpimiiaaGreat
open Go.RowKit

set_option maxRecDepth 100000 in
set_option maxHeartbeats 16000000 in
theorem FnDiagrams_walk (ca : Option Addr) (cl cc : Nat) (w : World) (hc : CodeOk w ca cl) :
    Calls Tryz.prog 3 #[.slice ca cl cc] w fun e w' => e = .returned (.bool true) ∧ Below w.heap.size w w' := by
  have hcH := Lib.hid hc
  clear hc
  by_cases hbig : (65536 : Int) < (cl : Int)
  · go_enter Tryz.func3, Tryz.ntmps3
    go_wp2_with fail
    refine (vBig_any _ _ _ _).mono ?_
    rintro e w1 ⟨rfl, rfl⟩
    rw [decide_eq_true hbig]
    go_wp2_with fail
    go_ret
    exact ⟨rfl, bb _⟩
  have hsm : cl ≤ 65536 := by omega
  have hv := Lib.hid (decide_eq_false hbig)
  clear hbig
  go_enter Tryz.func3, Tryz.ntmps3
  go_wp2_with fail
  refine (vBig_any _ _ _ _).mono ?_
  rintro e w1 ⟨rfl, rfl⟩
  rw [hv.out]
  clear hv
  go_wp2_with fail
  refine (drawReduce_any ca cl cc w1 hcH.out hsm).mono ?_
  rintro e W0 ⟨vars, r, ns, B, c, hv0, hv1, hnl, rfl, hN, -, hb⟩
  have S1 := (Sp.of_below hb).alloc_box #[.int .i64 r, .slice B ns.length c] 26
  replace hN := Lib.hid (hN.grow (bal (bb _) (.cells #[.int .i64 r, .slice B ns.length c] 26)))
  have p1 := fun W (h : NdAt W B ns) => reduce_any vars r B c ns W h (by omega)
  have s1 := fun W (h : NdAt W B ns) => specReduce_any vars r B c ns W h (by omega)
  have p2 := fun W (h : NdAt W B ns) => isDiagram_any vars r B c ns W h (by omega)
  have p3 := fun W (h : NdAt W B ns) => isReduced_any vars r B c ns W h (by omega)
  have s3 := fun W (h : NdAt W B ns) => specIsReduced_any vars r B c ns W h (by omega)
  have p4 := fun W (h : NdAt W B ns) => count_any vars r B c ns W h (by omega)
  have s4 := fun W (h : NdAt W B ns) => specCount_any vars r B c ns W h (by omega)
  have p5 := fun W (h : NdAt W B ns) => first_any vars r B c ns W h (by omega)
  have s5 := fun W (h : NdAt W B ns) => specFirst_any vars r B c ns W h (by omega)
  obtain ⟨ok, hok⟩ : ∃ ok, goodD vars r ns = ok := ⟨_, rfl⟩
  simp only [hok] at p1 s1 p2 p3 s3 p4 s4 p5 s5
  have hol := out_len ok hv1 (valD r ns)
  have hq : ok = true → decide (r = dgR vars.toNat (valD r ns) ∧ ns = dgN vars.toNat (valD r ns)) = decide (r = outR ok vars (valD r ns) ∧ ns = outN ok vars (valD r ns)) := fun h => by subst h; rfl
  have hfc : outFB ok vars (valD r ns) = (ok && decide (0 < outC ok vars (valD r ns))) := out_first ok vars (valD r ns)
  have hfl := out_firstl ok hv1 (valD r ns)
  obtain ⟨rr, hrr⟩ : ∃ x, outR ok vars (valD r ns) = x := ⟨_, rfl⟩
  obtain ⟨nn, hnn⟩ : ∃ x, outN ok vars (valD r ns) = x := ⟨_, rfl⟩
  obtain ⟨cn, hcn⟩ : ∃ x, outC ok vars (valD r ns) = x := ⟨_, rfl⟩
  obtain ⟨kn, hkn⟩ : ∃ x, outFB ok vars (valD r ns) = x := ⟨_, rfl⟩
  obtain ⟨L, hL⟩ : ∃ x, outF ok vars (valD r ns) = x := ⟨_, rfl⟩
  obtain ⟨q, hqe⟩ : ∃ x, decide (r = dgR vars.toNat (valD r ns) ∧ ns = dgN vars.toNat (valD r ns)) = x := ⟨_, rfl⟩
  simp only [hrr, hnn, hcn, hkn, hL, hqe] at p1 s1 p3 s3 p4 s4 p5 s5 hq hfc hol hfl
  have v1 := fun A A' c c' W (h : NdAt W A nn) (h' : NdAt W A' nn) => vDiagram_same rr A A' c c' nn W h h' (by omega)
  have v2 := fun A c' W (h : NdAt W B ns) (h' : NdAt W A nn) => vDiagramF_any r rr B A c c' ns nn W h h' (by omega) (by omega)
  have v3 := fun A A' c c' W (h : IntsAt W A L) (h' : IntsAt W A' L) => vInts_same A A' c c' L W h h' (by omega)
  obtain ⟨q2, hq2⟩ : ∃ x, decide (r = rr ∧ ns = nn) = x := ⟨_, rfl⟩
  simp only [hq2] at v2 hq
  replace p1 := Lib.hid p1
  replace s1 := Lib.hid s1
  replace p2 := Lib.hid p2
  replace p3 := Lib.hid p3
  replace s3 := Lib.hid s3
  replace p4 := Lib.hid p4
  replace s4 := Lib.hid s4
  replace p5 := Lib.hid p5
  replace s5 := Lib.hid s5
  replace v1 := Lib.hid v1
  replace v2 := Lib.hid v2
  replace v3 := Lib.hid v3
  replace hok := Lib.hid hok
  replace hrr := Lib.hid hrr
  replace hnn := Lib.hid hnn
  replace hcn := Lib.hid hcn
  replace hq := Lib.hid hq
  replace hfc := Lib.hid hfc
  have e1 : (ok != ok) = false := by cases ok <;> rfl
  have e2 : ((ok && q) != (ok && q)) = false := by cases ok <;> cases q <;> rfl
  have e3 : (kn != kn) = false := by cases kn <;> rfl
  have e4 : ¬ (cn ≠ cn) := fun h => h rfl
  clear hb hkn hL hqe hq2 hfl
  have c0 := S1.cell (i := 0) rfl (o := 0) rfl
  have c1 := S1.cell (i := 0) rfl (o := 1) rfl
  replace S1 := Lib.hid S1
  go_wp2_with fail
  refine (p1.out _ hN.out).mono ?_
  rintro e WE ⟨A1, k1, rfl, hE, -, hb⟩
  replace S1 := Lib.hid (S1.out.grow hb)
  clear c0 c1
  replace hN := Lib.hid (hN.out.grow hb)
  replace hE := Lib.hid hE
  clear hb p1
  have c0 := S1.out.cell (i := 0) rfl (o := 0) rfl
  have c1 := S1.out.cell (i := 0) rfl (o := 1) rfl
  replace S1 := Lib.hid (S1.out.alloc_box #[.int .i64 rr, .slice A1 nn.length k1] 26)
  clear c0 c1
  replace hN := Lib.hid (hN.out.grow (bal (bb _) (.cells #[.int .i64 rr, .slice A1 nn.length k1] 26)))
  replace hE := Lib.hid (hE.out.grow (bal (bb _) (.cells #[.int .i64 rr, .slice A1 nn.length k1] 26)))
  have c0 := S1.out.cell (i := 1) rfl (o := 0) rfl
  have c1 := S1.out.cell (i := 1) rfl (o := 1) rfl
  have d0 := S1.out.cell (i := 0) rfl (o := 0) rfl
  have d1 := S1.out.cell (i := 0) rfl (o := 1) rfl
  go_wp2_with fail
  refine (s1.out _ hN.out).mono ?_
  rintro e WW ⟨A2, k2, rfl, hW, -, hb⟩
  replace S1 := Lib.hid (S1.out.grow hb)
  clear c0 c1 d0 d1
  replace hN := Lib.hid (hN.out.grow hb)
  replace hE := Lib.hid (hE.out.grow hb)
  replace hW := Lib.hid hW
  clear hb s1
  have c0 := S1.out.cell (i := 1) rfl (o := 0) rfl
  have c1 := S1.out.cell (i := 1) rfl (o := 1) rfl
  have d0 := S1.out.cell (i := 0) rfl (o := 0) rfl
  have d1 := S1.out.cell (i := 0) rfl (o := 1) rfl
  replace S1 := Lib.hid (S1.out.alloc_box #[.int .i64 rr, .slice A2 nn.length k2] 26)
  clear c0 c1 d0 d1
  replace hN := Lib.hid (hN.out.grow (bal (bb _) (.cells #[.int .i64 rr, .slice A2 nn.length k2] 26)))
  replace hE := Lib.hid (hE.out.grow (bal (bb _) (.cells #[.int .i64 rr, .slice A2 nn.length k2] 26)))
  replace hW := Lib.hid (hW.out.grow (bal (bb _) (.cells #[.int .i64 rr, .slice A2 nn.length k2] 26)))
  have c0 := S1.out.cell (i := 2) rfl (o := 0) rfl
  have c1 := S1.out.cell (i := 2) rfl (o := 1) rfl
  have d0 := S1.out.cell (i := 1) rfl (o := 0) rfl
  have d1 := S1.out.cell (i := 1) rfl (o := 1) rfl
  have f0 := S1.out.cell (i := 0) rfl (o := 0) rfl
  have f1 := S1.out.cell (i := 0) rfl (o := 1) rfl
  go_wp2_with fail
  refine (p2.out _ hN.out).mono ?_
  rintro e wn ⟨rfl, hb⟩
  replace S1 := Lib.hid (S1.out.grow hb)
  clear c0 c1 d0 d1 f0 f1
  replace hN := Lib.hid (hN.out.grow hb)
  replace hE := Lib.hid (hE.out.grow hb)
  replace hW := Lib.hid (hW.out.grow hb)
  clear hb p2
  have c0 := S1.out.cell (i := 2) rfl (o := 0) rfl
  have c1 := S1.out.cell (i := 2) rfl (o := 1) rfl
  have d0 := S1.out.cell (i := 1) rfl (o := 0) rfl
  have d1 := S1.out.cell (i := 1) rfl (o := 1) rfl
  have f0 := S1.out.cell (i := 0) rfl (o := 0) rfl
  have f1 := S1.out.cell (i := 0) rfl (o := 1) rfl
  go_wp2_with fail
  refine (v1.out _ _ _ _ _ hE.out hW.out).mono ?_
  rintro e wn ⟨rfl, hb⟩
  replace S1 := Lib.hid (S1.out.grow hb)
  clear c0 c1 d0 d1 f0 f1
  replace hN := Lib.hid (hN.out.grow hb)
  replace hE := Lib.hid (hE.out.grow hb)
  replace hW := Lib.hid (hW.out.grow hb)
  clear hb 
  have c0 := S1.out.cell (i := 2) rfl (o := 0) rfl
  have c1 := S1.out.cell (i := 2) rfl (o := 1) rfl
  have d0 := S1.out.cell (i := 1) rfl (o := 0) rfl
  have d1 := S1.out.cell (i := 1) rfl (o := 1) rfl
  have f0 := S1.out.cell (i := 0) rfl (o := 0) rfl
  have f1 := S1.out.cell (i := 0) rfl (o := 1) rfl
  go_wp2_with fail
  refine (p3.out _ hN.out).mono ?_
  rintro e wn ⟨rfl, hb⟩
  replace S1 := Lib.hid (S1.out.grow hb)
  clear c0 c1 d0 d1 f0 f1
  replace hN := Lib.hid (hN.out.grow hb)
  replace hE := Lib.hid (hE.out.grow hb)
  replace hW := Lib.hid (hW.out.grow hb)
  clear hb p3
  have c0 := S1.out.cell (i := 2) rfl (o := 0) rfl
  have c1 := S1.out.cell (i := 2) rfl (o := 1) rfl
  have d0 := S1.out.cell (i := 1) rfl (o := 0) rfl
  have d1 := S1.out.cell (i := 1) rfl (o := 1) rfl
  have f0 := S1.out.cell (i := 0) rfl (o := 0) rfl
  have f1 := S1.out.cell (i := 0) rfl (o := 1) rfl
  go_wp2_with fail
  refine (s3.out _ hN.out).mono ?_
  rintro e wn ⟨rfl, hb⟩
  replace S1 := Lib.hid (S1.out.grow hb)
  clear c0 c1 d0 d1 f0 f1
  replace hN := Lib.hid (hN.out.grow hb)
  replace hE := Lib.hid (hE.out.grow hb)
  replace hW := Lib.hid (hW.out.grow hb)
  clear hb s3
  have c0 := S1.out.cell (i := 2) rfl (o := 0) rfl
  have c1 := S1.out.cell (i := 2) rfl (o := 1) rfl
  have d0 := S1.out.cell (i := 1) rfl (o := 0) rfl
  have d1 := S1.out.cell (i := 1) rfl (o := 1) rfl
  have f0 := S1.out.cell (i := 0) rfl (o := 0) rfl
  have f1 := S1.out.cell (i := 0) rfl (o := 1) rfl
  go_upto_region 10 with fail
  go_cut [112] (fun s wx => s = .bool false ∧ Hid (Below wn.heap.size wn wx))
  case first =>
    as_aux_lemma =>
      cases ok
      · go_wp2_with fail
        go_meet
        exact ⟨rfl, Lib.hid (bb _)⟩
      · have hqq := hq.out rfl
        have e5 : (q2 != q2) = false := by cases q2 <;> rfl
        (try simp only [Bool.true_and])
        subst hqq
        go_wp2_with fail
        refine (v2.out _ _ _ hN.out hE.out).mono ?_
        rintro e wm ⟨rfl, hb⟩
        replace hb := Lib.hid hb
        clear S1 hN hE hW c0 c1 d0 d1 f0 f1
        go_wp2_with fail
        go_meet
        exact ⟨rfl, hb⟩
  case rest =>
    obtain ⟨rfl, hb⟩ := hcut
    replace hb := hb.out
    replace S1 := Lib.hid (S1.out.grow hb)
    replace hN := Lib.hid (hN.out.grow hb)
    replace hE := Lib.hid (hE.out.grow hb)
    clear hb hW c0 c1 d0 d1 f0 f1
    have c0 := S1.out.cell (i := 2) rfl (o := 0) rfl
    have c1 := S1.out.cell (i := 2) rfl (o := 1) rfl
    have d0 := S1.out.cell (i := 1) rfl (o := 0) rfl
    have d1 := S1.out.cell (i := 1) rfl (o := 1) rfl
    have f0 := S1.out.cell (i := 0) rfl (o := 0) rfl
    have f1 := S1.out.cell (i := 0) rfl (o := 1) rfl
    go_wp2_with fail
    refine (p4.out _ hN.out).mono ?_
    rintro e wn ⟨rfl, hb⟩
    replace S1 := Lib.hid (S1.out.grow hb)
    clear c0 c1 d0 d1 f0 f1
    replace hN := Lib.hid (hN.out.grow hb)
    replace hE := Lib.hid (hE.out.grow hb)
    clear hb p4
    have c0 := S1.out.cell (i := 2) rfl (o := 0) rfl
    have c1 := S1.out.cell (i := 2) rfl (o := 1) rfl
    have d0 := S1.out.cell (i := 1) rfl (o := 0) rfl
    have d1 := S1.out.cell (i := 1) rfl (o := 1) rfl
    have f0 := S1.out.cell (i := 0) rfl (o := 0) rfl
    have f1 := S1.out.cell (i := 0) rfl (o := 1) rfl
    go_wp2_with fail
    refine (s4.out _ hN.out).mono ?_
    rintro e wn ⟨rfl, hb⟩
    replace S1 := Lib.hid (S1.out.grow hb)
    clear c0 c1 d0 d1 f0 f1
    replace hN := Lib.hid (hN.out.grow hb)
    replace hE := Lib.hid (hE.out.grow hb)
    clear hb s4
    have c0 := S1.out.cell (i := 2) rfl (o := 0) rfl
    have c1 := S1.out.cell (i := 2) rfl (o := 1) rfl
    have d0 := S1.out.cell (i := 1) rfl (o := 0) rfl
    have d1 := S1.out.cell (i := 1) rfl (o := 1) rfl
    have f0 := S1.out.cell (i := 0) rfl (o := 0) rfl
    have f1 := S1.out.cell (i := 0) rfl (o := 1) rfl
    go_wp2_with fail
    refine (p5.out _ hN.out).mono ?_
    rintro e wn ⟨D1, m1, rfl, hF1, hb⟩
    replace S1 := Lib.hid (S1.out.grow hb)
    clear c0 c1 d0 d1 f0 f1
    replace hN := Lib.hid (hN.out.grow hb)
    replace hE := Lib.hid (hE.out.grow hb)
    replace hF1 := Lib.hid hF1
    clear hb p5
    have c0 := S1.out.cell (i := 2) rfl (o := 0) rfl
    have c1 := S1.out.cell (i := 2) rfl (o := 1) rfl
    have d0 := S1.out.cell (i := 1) rfl (o := 0) rfl
    have d1 := S1.out.cell (i := 1) rfl (o := 1) rfl
    have f0 := S1.out.cell (i := 0) rfl (o := 0) rfl
    have f1 := S1.out.cell (i := 0) rfl (o := 1) rfl
    go_wp2_with fail
    refine (s5.out _ hN.out).mono ?_
    rintro e wn ⟨D2, m2, rfl, hF2, hb⟩
    replace S1 := Lib.hid (S1.out.grow hb)
    clear c0 c1 d0 d1 f0 f1
    replace hN := Lib.hid (hN.out.grow hb)
    replace hE := Lib.hid (hE.out.grow hb)
    replace hF1 := Lib.hid (hF1.out.grow hb)
    replace hF2 := Lib.hid hF2
    clear hb s5
    have c0 := S1.out.cell (i := 2) rfl (o := 0) rfl
    have c1 := S1.out.cell (i := 2) rfl (o := 1) rfl
    have d0 := S1.out.cell (i := 1) rfl (o := 0) rfl
    have d1 := S1.out.cell (i := 1) rfl (o := 1) rfl
    have f0 := S1.out.cell (i := 0) rfl (o := 0) rfl
    have f1 := S1.out.cell (i := 0) rfl (o := 1) rfl
    go_upto_region 18 with fail
    go_cut [167] (fun s wx => s = .bool false ∧ Hid (Below wn.heap.size wn wx))
    case first =>
      as_aux_lemma =>
        have hkk := hfc.out
        have hvv := Lib.hid (v3.out D1 D2 m1 m2 wn hF1.out hF2.out)
        clear S1 hN hE hF1 hF2 c0 c1 d0 d1 f0 f1
        cases ok
        · have hk2 : kn = false := hkk
          subst hk2
          clear hkk hfc
          go_wp2_with fail
          refine hvv.out.mono ?_
          rintro e wm ⟨rfl, hb⟩
          replace hb := Lib.hid hb
          go_wp2_with fail
          go_meet
          exact ⟨rfl, hb⟩
        · by_cases h0 : 0 < cn
          · have hk2 : kn = true := by rw [hkk, decide_eq_true h0]; rfl
            subst hk2
            clear hkk hfc
            go_wp2_with fail
            refine hvv.out.mono ?_
            rintro e wm ⟨rfl, hb⟩
            replace hb := Lib.hid hb
            go_wp2_with fail
            go_meet
            exact ⟨rfl, hb⟩
          · have hk2 : kn = false := by rw [hkk, decide_eq_false h0]; rfl
            subst hk2
            clear hkk hfc
            go_wp2_with fail
            refine hvv.out.mono ?_
            rintro e wm ⟨rfl, hb⟩
            replace hb := Lib.hid hb
            go_wp2_with fail
            go_meet
            exact ⟨rfl, hb⟩
    case rest =>
      obtain ⟨rfl, hb⟩ := hcut
      replace hb := hb.out
      replace S1 := Lib.hid (S1.out.grow hb)
      replace hN := Lib.hid (hN.out.grow hb)
      replace hE := Lib.hid (hE.out.grow hb)
      clear hb hF1 hF2 e1 e2 e3 e4 v1 v2 v3 hfc hq c0 c1 d0 d1 f0 f1
      have c0 := S1.out.cell (i := 2) rfl (o := 0) rfl
      have c1 := S1.out.cell (i := 2) rfl (o := 1) rfl
      have d0 := S1.out.cell (i := 1) rfl (o := 0) rfl
      have d1 := S1.out.cell (i := 1) rfl (o := 1) rfl
      have f0 := S1.out.cell (i := 0) rfl (o := 0) rfl
      have f1 := S1.out.cell (i := 0) rfl (o := 1) rfl
      go_upto_if 168 with fail
      go_cut [] (fun wx => Hid (Below w1.heap.size w1 wx))
      case first =>
        exact FnDiagrams_p1 _ _ _ _ _ _ _ _ _ _ _ _ _ _ _ _ _ _ _ _ _ _ _ _ _ _ _ _ hcH hsm hnl hok hrr hnn hcn S1 hN hE (by assumption) (fun _ _ d _ _ h => by cases d <;> exact h) (by assumption)
      case rest =>
        as_aux_lemma =>
          rename World => wp
          have hB := hcut
          clear hcut hok hrr hnn hcn hN hE S1 c0 c1 d0 d1 f0 f1
          go_wp2_with fail
          refine (drawDiagCnf_any ca cl cc _ (hcH.out.grow hB.out) hsm).mono ?_
          rintro e W2 ⟨vars, B, cap, cs, xss, rfl, hv0, hv1, hxl, -, T⟩
          obtain ⟨F, hr, -, -⟩ := T.rows_done (i := 0) rfl
          have hR := Ty.row_down hr
          have S1 := (Sp.of_below (btr hB.out T.below)).alloc_box #[.int .i64 vars, .slice B xss.length cap] 45
          replace hR := Lib.hid (Ty.row_grow hR (bal (bb _) (.cells #[.int .i64 vars, .slice B xss.length cap] 45)))
          have p1 := fun W F (h : (Ty.slice Ty.int).row false W (.slice B xss.length cap) xss F) => diagramOfCnf_any vars _ xss F W h
          have s1 := fun W F (h : (Ty.slice Ty.int).row false W (.slice B xss.length cap) xss F) => specOfCnf_any vars _ xss F W h
          obtain ⟨ok, hok⟩ : ∃ ok, dCnf vars xss = ok := ⟨_, rfl⟩
          simp only [hok] at p1 s1
          have hol := cnf_out_len hok
          obtain ⟨rr, hrr⟩ : ∃ x, outR ok vars (modT xss) = x := ⟨_, rfl⟩
          obtain ⟨nn, hnn⟩ : ∃ x, outN ok vars (modT xss) = x := ⟨_, rfl⟩
          simp only [hrr, hnn] at p1 s1 hol
          have v1 := fun A A' c c' W (h : NdAt W A nn) (h' : NdAt W A' nn) => vDiagram_same rr A A' c c' nn W h h' (by omega)
          have e1 : (ok != ok) = false := by cases ok <;> rfl
          replace p1 := Lib.hid p1
          replace s1 := Lib.hid s1
          replace v1 := Lib.hid v1
          replace hok := Lib.hid hok
          replace hrr := Lib.hid hrr
          replace hnn := Lib.hid hnn
          have c0 := S1.cell (i := 0) rfl (o := 0) rfl
          have c1 := S1.cell (i := 0) rfl (o := 1) rfl
          replace S1 := Lib.hid S1
          clear T hr hB
          go_wp2_with fail
          refine (p1.out _ _ hR.out).mono ?_
          rintro e XE ⟨A1, k1, rfl, hE, -, hb⟩
          replace S1 := Lib.hid (S1.out.grow hb)
          clear c0 c1
          replace hR := Lib.hid (Ty.row_grow hR.out hb)
          replace hE := Lib.hid hE
          clear hb p1
          have c0 := S1.out.cell (i := 0) rfl (o := 0) rfl
          have c1 := S1.out.cell (i := 0) rfl (o := 1) rfl
          replace hR := Lib.hid (Ty.row_grow hR.out (bal (bb _) (.cells #[.int .i64 rr, .slice A1 nn.length k1] 26)))
          replace S1 := Lib.hid (S1.out.alloc_box #[.int .i64 rr, .slice A1 nn.length k1] 26)
          clear c0 c1
          replace hE := Lib.hid (hE.out.grow (bal (bb _) (.cells #[.int .i64 rr, .slice A1 nn.length k1] 26)))
          have c0 := S1.out.cell (i := 1) rfl (o := 0) rfl
          have c1 := S1.out.cell (i := 1) rfl (o := 1) rfl
          have d0 := S1.out.cell (i := 0) rfl (o := 0) rfl
          have d1 := S1.out.cell (i := 0) rfl (o := 1) rfl
          go_wp2_with fail
          refine (s1.out _ _ hR.out).mono ?_
          rintro e XW ⟨A2, k2, rfl, hW, -, hb⟩
          replace S1 := Lib.hid (S1.out.grow hb)
          clear c0 c1 d0 d1
          replace hR := Lib.hid (Ty.row_grow hR.out hb)
          replace hE := Lib.hid (hE.out.grow hb)
          replace hW := Lib.hid hW
          clear hb s1
          have c0 := S1.out.cell (i := 1) rfl (o := 0) rfl
          have c1 := S1.out.cell (i := 1) rfl (o := 1) rfl
          have d0 := S1.out.cell (i := 0) rfl (o := 0) rfl
          have d1 := S1.out.cell (i := 0) rfl (o := 1) rfl
          replace hR := Lib.hid (Ty.row_grow hR.out (bal (bb _) (.cells #[.int .i64 rr, .slice A2 nn.length k2] 26)))
          replace S1 := Lib.hid (S1.out.alloc_box #[.int .i64 rr, .slice A2 nn.length k2] 26)
          clear c0 c1 d0 d1
          replace hE := Lib.hid (hE.out.grow (bal (bb _) (.cells #[.int .i64 rr, .slice A2 nn.length k2] 26)))
          replace hW := Lib.hid (hW.out.grow (bal (bb _) (.cells #[.int .i64 rr, .slice A2 nn.length k2] 26)))
          have c0 := S1.out.cell (i := 2) rfl (o := 0) rfl
          have c1 := S1.out.cell (i := 2) rfl (o := 1) rfl
          have d0 := S1.out.cell (i := 1) rfl (o := 0) rfl
          have d1 := S1.out.cell (i := 1) rfl (o := 1) rfl
          have f0 := S1.out.cell (i := 0) rfl (o := 0) rfl
          have f1 := S1.out.cell (i := 0) rfl (o := 1) rfl
          go_wp2_with fail
          refine (v1.out _ _ _ _ _ hE.out hW.out).mono ?_
          rintro e wn ⟨rfl, hb⟩
          replace S1 := Lib.hid (S1.out.grow hb)
          clear c0 c1 d0 d1 f0 f1
          replace hR := Lib.hid (Ty.row_grow hR.out hb)
          replace hE := Lib.hid (hE.out.grow hb)
          replace hW := Lib.hid (hW.out.grow hb)
          clear hb v1
          have c0 := S1.out.cell (i := 2) rfl (o := 0) rfl
          have c1 := S1.out.cell (i := 2) rfl (o := 1) rfl
          have d0 := S1.out.cell (i := 1) rfl (o := 0) rfl
          have d1 := S1.out.cell (i := 1) rfl (o := 1) rfl
          have f0 := S1.out.cell (i := 0) rfl (o := 0) rfl
          have f1 := S1.out.cell (i := 0) rfl (o := 1) rfl
          go_upto_if 255 with fail
          go_cut [] (fun wx => Hid (Below w1.heap.size w1 wx))
          case first =>
            exact FnDiagrams_p2 _ _ _ _ _ _ _ _ _ _ _ _ _ _ _ _ _ _ _ _ _ _ _ _ _ _ _ _ hok hrr hnn S1 hR hE (by assumption) (fun _ _ d _ _ h => by cases d <;> exact h) (by assumption)
          case rest =>
            as_aux_lemma =>
              rename World => wq
              have hB := hcut
              clear hcut hok hrr hnn hE hW hR S1 e1 hol hxl hv0 hv1 c0 c1 d0 d1 f0 f1
              go_wp2_with fail
              refine (drawOfClause_any ca cl cc _ (hcH.out.grow hB.out) hsm).mono ?_
              rintro e W3 ⟨vars, B, cap, xs, F, hv0, hv1, rfl, hR, hb⟩
              have p1 := fun W F (h : Ty.int.row false W (.slice B xs.length cap) xs F) => diagramOfClause_any vars xs B cap F W h
              have s1 := fun W F (h : Ty.int.row false W (.slice B xs.length cap) xs F) => specOfClause_any vars xs B cap F W h
              generalize hok : (inB vars 0 6 && clauseB vars xs) = ok at p1 s1
              have hol := out_len ok hv1 (clT xs)
              generalize outR ok vars (clT xs) = rr at p1 s1
              generalize outN ok vars (clT xs) = nn at p1 s1 hol
              have v1 := fun A A' c c' W (h : NdAt W A nn) (h' : NdAt W A' nn) => vDiagram_same rr A A' c c' nn W h h' (by omega)
              have e1 : (ok == ok) = true := by cases ok <;> rfl
              replace hB := Lib.hid (btr hB.out hb)
              replace hR := Lib.hid hR
              replace p1 := Lib.hid p1
              replace s1 := Lib.hid s1
              replace v1 := Lib.hid v1
              clear hb hok
              go_wp2_with fail
              refine (p1.out _ _ hR.out).mono ?_
              rintro e w4 ⟨A1, k1, rfl, hE, -, hb⟩
              have S1 := (Sp.of_below (btr hB.out hb)).alloc_box #[.int .i64 rr, .slice A1 nn.length k1] 26
              replace hR := Lib.hid (Ty.row_grow (Ty.row_grow hR.out hb) (bal (bb _) (.cells #[.int .i64 rr, .slice A1 nn.length k1] 26)))
              replace hE := Lib.hid (hE.grow (bal (bb _) (.cells #[.int .i64 rr, .slice A1 nn.length k1] 26)))
              replace S1 := Lib.hid S1
              clear hb hB p1
              go_wp2_with fail
              refine (s1.out _ _ hR.out).mono ?_
              rintro e w5 ⟨A2, k2, rfl, hW, -, hb⟩
              have S2 := (S1.out.grow hb).alloc_box #[.int .i64 rr, .slice A2 nn.length k2] 26
              replace hE := Lib.hid ((hE.out.grow hb).grow (bal (bb _) (.cells #[.int .i64 rr, .slice A2 nn.length k2] 26)))
              replace hW := Lib.hid (hW.grow (bal (bb _) (.cells #[.int .i64 rr, .slice A2 nn.length k2] 26)))
              have c0 := S2.cell (i := 1) rfl (o := 0) rfl
              have c1 := S2.cell (i := 1) rfl (o := 1) rfl
              have d0 := S2.cell (i := 0) rfl (o := 0) rfl
              have d1 := S2.cell (i := 0) rfl (o := 1) rfl
              have hB := Lib.hid S2.below
              clear hb S1 S2 s1 hR
              go_wp2_with fail
              refine (v1.out _ _ _ _ _ hE.out hW.out).mono ?_
              rintro e w6 ⟨rfl, hb⟩
              have hB2 := btr hB.out hb
              clear hb hB hE hW c0 c1 d0 d1 v1
              go_wp2_with fail
              go_ret
              exact ⟨rfl, hB2⟩
end Go.Proofs.YtbemodacpimiiaaGreat
