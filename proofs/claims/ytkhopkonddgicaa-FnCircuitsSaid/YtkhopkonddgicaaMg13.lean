/- Lemmas and contracts for a law, put together out of several texts: WalkCircuits. -/
import Derived.Test.YtkhopkonddgicaaMg10
import Derived.Test.YtkhopkonddgicaaMg12
/- The walk of FnCircuits. Printed by gen_circ.py. -/
namespace Go.Proofs.Ytkhopkonddgicaa
open Go.RowKit

set_option maxRecDepth 100000 in
set_option maxHeartbeats 16000000 in
theorem FnCircuits_walk (ca : Option Addr) (cl cc : Nat) (w : World) (hc : CodeOk w ca cl) :
    Calls Try.prog 4 #[.slice ca cl cc] w fun e w' => e = .returned (.bool true) ∧ Below w.heap.size w w' := by
  have hcH := Lib.hid hc
  clear hc
  by_cases hbig : (65536 : Int) < (cl : Int)
  · go_enter Try.func4, Try.ntmps4
    go_wp2_with fail
    refine (rBig_any _ _ _ _).mono ?_
    rintro e w1 ⟨rfl, rfl⟩
    rw [decide_eq_true hbig]
    go_wp2_with fail
    go_ret
    exact ⟨rfl, bb _⟩
  have hsm : cl ≤ 65536 := by omega
  have hv := Lib.hid (decide_eq_false hbig)
  clear hbig
  go_enter Try.func4, Try.ntmps4
  go_wp2_with fail
  refine (rBig_any _ _ _ _).mono ?_
  rintro e w1 ⟨rfl, rfl⟩
  rw [hv.out]
  clear hv
  go_wp2_with fail
  refine (drawFold_any ca cl cc w1 hcH.out hsm).mono ?_
  rintro e wn ⟨vars, A0, d0, gs, rfl, hv0, hv1, hgl, hG, hb⟩
  replace hG := Lib.hid hG
  have hB := Lib.hid hb
  clear hb
  have p1 := fun W A c (h : GtAt W A gs) => trimM_any vars A c gs W h (by omega)
  have s1 := fun W A c (h : GtAt W A gs) => specTrim_any vars A c gs W h (by omega)
  have p2 := fun W A c (h : GtAt W A gs) => foldM_any vars A c gs W h (by omega)
  have s2 := fun W A c (h : GtAt W A gs) => specFold_any vars A c gs W h (by omega)
  have p3 := fun W A c (h : GtAt W A gs) => pushM_any vars A c gs W h (by omega)
  have s3 := fun W A c (h : GtAt W A gs) => specPushM_any vars A c gs W h (by omega)
  have p4 := fun W A c (h : GtAt W A gs) => dualM_any vars A c gs W h (by omega)
  have s4 := fun W A c (h : GtAt W A gs) => specDual_any vars A c gs W h (by omega)
  have ic := fun W A c (h : GtAt W A gs) => isCircuit_any vars A c gs W h (by omega)
  cases hq : circB vars gs
  · rw [hq] at p1 s1 p2 s2 p3 s3 p4 s4 ic
    simp only [Bool.false_and] at p3 s3
    have hr := fun W A1 A2 d1 d2 => rGates_same A1 A2 d1 d2 [] W ⟨fun j hj => absurd hj (by simp), by simp⟩ ⟨fun j hj => absurd hj (by simp), by simp⟩ (by simp)
    replace p1 := Lib.hid p1
    replace s1 := Lib.hid s1
    replace p2 := Lib.hid p2
    replace s2 := Lib.hid s2
    replace p3 := Lib.hid p3
    replace s3 := Lib.hid s3
    replace p4 := Lib.hid p4
    replace s4 := Lib.hid s4
    replace ic := Lib.hid ic
    replace hr := Lib.hid hr
    clear hq
    go_wp2_with fail
    refine (p1.out _ _ _ hG.out).mono ?_
    rintro e wn hO
    obtain ⟨Ap1, dp1, rfl, hb⟩ := hO.none
    clear hO p1
    replace hB := Lib.hid (btr hB.out hb)
    replace hG := Lib.hid (hG.out.grow hb)
    clear hb
    go_wp2_with fail
    refine (s1.out _ _ _ hG.out).mono ?_
    rintro e wn hO
    obtain ⟨As1, ds1, rfl, hb⟩ := hO.none
    clear hO s1
    replace hB := Lib.hid (btr hB.out hb)
    replace hG := Lib.hid (hG.out.grow hb)
    clear hb
    go_wp2_with fail
    refine (hr.out _ _ _ _ _).mono ?_
    rintro e wn ⟨rfl, hb⟩
    replace hB := Lib.hid (btr hB.out hb)
    replace hG := Lib.hid (hG.out.grow hb)
    clear hb
    go_wp2_with fail
    refine (ic.out _ _ _ hG.out).mono ?_
    rintro e wn ⟨rfl, hb⟩
    replace hB := Lib.hid (btr hB.out hb)
    replace hG := Lib.hid (hG.out.grow hb)
    clear hb
    go_wp2_with fail
    refine (p2.out _ _ _ hG.out).mono ?_
    rintro e wn hO
    obtain ⟨Ap2, dp2, rfl, hb⟩ := hO.none
    clear hO p2
    replace hB := Lib.hid (btr hB.out hb)
    replace hG := Lib.hid (hG.out.grow hb)
    clear hb
    go_wp2_with fail
    refine (s2.out _ _ _ hG.out).mono ?_
    rintro e wn hO
    obtain ⟨As2, ds2, rfl, hb⟩ := hO.none
    clear hO s2
    replace hB := Lib.hid (btr hB.out hb)
    replace hG := Lib.hid (hG.out.grow hb)
    clear hb
    go_wp2_with fail
    refine (hr.out _ _ _ _ _).mono ?_
    rintro e wn ⟨rfl, hb⟩
    replace hB := Lib.hid (btr hB.out hb)
    replace hG := Lib.hid (hG.out.grow hb)
    clear hb
    go_wp2_with fail
    refine (p3.out _ _ _ hG.out).mono ?_
    rintro e wn hO
    obtain ⟨Ap3, dp3, rfl, hb⟩ := hO.none
    clear hO p3
    replace hB := Lib.hid (btr hB.out hb)
    replace hG := Lib.hid (hG.out.grow hb)
    clear hb
    go_wp2_with fail
    refine (s3.out _ _ _ hG.out).mono ?_
    rintro e wn hO
    obtain ⟨As3, ds3, rfl, hb⟩ := hO.none
    clear hO s3
    replace hB := Lib.hid (btr hB.out hb)
    replace hG := Lib.hid (hG.out.grow hb)
    clear hb
    go_wp2_with fail
    refine (hr.out _ _ _ _ _).mono ?_
    rintro e wn ⟨rfl, hb⟩
    replace hB := Lib.hid (btr hB.out hb)
    replace hG := Lib.hid (hG.out.grow hb)
    clear hb
    go_wp2_with fail
    refine (p4.out _ _ _ hG.out).mono ?_
    rintro e wn hO
    obtain ⟨Ap4, dp4, rfl, hb⟩ := hO.none
    clear hO p4
    replace hB := Lib.hid (btr hB.out hb)
    replace hG := Lib.hid (hG.out.grow hb)
    clear hb
    go_wp2_with fail
    refine (s4.out _ _ _ hG.out).mono ?_
    rintro e wn hO
    obtain ⟨As4, ds4, rfl, hb⟩ := hO.none
    clear hO s4
    replace hB := Lib.hid (btr hB.out hb)
    replace hG := Lib.hid (hG.out.grow hb)
    clear hb
    go_wp2_with fail
    refine (hr.out _ _ _ _ _).mono ?_
    rintro e wn ⟨rfl, hb⟩
    replace hB := Lib.hid (btr hB.out hb)
    replace hG := Lib.hid (hG.out.grow hb)
    clear hb
    clear hr hG
    go_wp2_with fail
    go_ret
    exact ⟨rfl, hB.out⟩
  · rw [hq] at p1 s1 p2 s2 p3 s3 p4 s4 ic
    simp only [Bool.true_and] at p3 s3
    obtain ⟨hv2, hv3, hpos, hlen, hok⟩ := circ_vars hq
    obtain ⟨n, rfl⟩ : ∃ n : Nat, vars = n := ⟨vars.toNat, by omega⟩
    have hn : n ≤ 12 := by omega
    obtain ⟨hsh, hpp⟩ := pow12 hn
    have tf := trim_facts hq
    have ff := fold_facts hq
    have df := dual_circ hq
    have sml : ∀ {R : List Gt}, circB n R = true → (∀ x ∈ R, gtOk x) ∧ R.length ≤ 200 := fun h => ⟨gt_small (circ_vars h).2.2.2.2 (by omega) (by have := circ_vars h; omega), (circ_vars h).2.2.2.1⟩
    have hTs := sml tf.1
    have hFs := sml ff.1
    have hDs := sml df
    have c1 := fun W A A' c c' (h : GtAt W A gs) (h' : GtAt W A' (trimG gs (needL gs))) => sameValues_any n A A' c c' gs (trimG gs (needL gs)) W hq tf.1 h h' (fun b _ => (tf.2 b).symm)
    have c2 := fun W A A' c c' (h : GtAt W A gs) (h' : GtAt W A' (foldR gs)) => sameValues_any n A A' c c' gs (foldR gs) W hq ff.1 h h' (fun b _ => (ff.2 b).symm)
    have nd := fun W A c (h : GtAt W A gs) => neededM_any n A c gs W h hq
    have hnl : (needL gs).length = (trimG gs (needL gs)).length := (trim_len _ _).symm
    rw [hnl] at nd
    have hfl := fold_len hq
    have cv := fun b (hb : b < 2 ^ n) W A c (h : GtAt W A gs) => circuitValueM_any n b A c gs W hq h hb
    have cd := fun b (hb : b < 2 ^ n) W A c (h : GtAt W A (dualC gs)) => circuitValueM_any n (2 ^ n - 1 - b) A c (dualC gs) W df h (by omega)
    have hdv := fun b (hb : b < 2 ^ n) => dual_cval hq hb
    have ct := fun W A c (h : GtAt W A gs) => countTrue_any n A c gs W hq h
    have cu := fun W A c (h : GtAt W A (dualC gs)) => countTrue_any n A c (dualC gs) W df h
    have hcc := dual_count hq
    have hpf := fun h => push_facts hq h
    have hpn := pushR_notV hq
    have hps : (pushesG gs).out.length ≤ 200 → (∀ x ∈ pushR gs, gtOk x) ∧ (pushR gs).length ≤ 200 := fun h => sml (hpf h).1
    have c3 := fun (hh : (pushesG gs).out.length ≤ 200) W A A' c c' (h : GtAt W A gs) (h' : GtAt W A' (pushR gs)) => sameValues_any n A A' c c' gs (pushR gs) W hq (hpf hh).1 h h' (fun b _ => ((hpf hh).2 b).symm)
    generalize trimG gs (needL gs) = T at *
    generalize foldR gs = F at *
    generalize pushR gs = R at *
    generalize dualC gs = D at *
    generalize cntP (cval gs) (2 ^ n) = k1 at *
    generalize cntP (cval D) (2 ^ n) = k2 at *
    have hN1 : 1 ≤ 2 ^ n := Nat.one_le_two_pow
    obtain ⟨N, hN⟩ : ∃ N, 2 ^ n = N := ⟨_, rfl⟩
    rw [hN] at hsh hpp hN1 hcc
    simp only [hN] at cv cd hdv
    clear hnl tf ff df hpf sml hq hok hv0 hv1 hv2 hv3 hN
    have rT := fun W A B c d (h : GtAt W A T) (h' : GtAt W B T) => rGates_same A B c d T W h h' (by omega)
    have rF := fun W A B c d (h : GtAt W A F) (h' : GtAt W B F) => rGates_same A B c d F W h h' (by omega)
    have rD := fun W A B c d (h : GtAt W A D) (h' : GtAt W B D) => rGates_same A B c d D W h h' (by omega)
    have hF64 := hFs.1
    have hT64 := hTs.1
    have hD64 := hDs.1
    have hfl2 : ¬ (T.length : Int) < F.length := by omega
    clear hFs hTs hDs
    cases ht : decide ((pushesG gs).out.length ≤ 200)
    · rw [ht] at p3 s3
      have hr := fun W A1 A2 d1 d2 => rGates_same A1 A2 d1 d2 [] W ⟨fun j hj => absurd hj (by simp), by simp⟩ ⟨fun j hj => absurd hj (by simp), by simp⟩ (by simp)
      replace hr := Lib.hid hr
      clear ht hps c3 hpn
      replace p1 := Lib.hid p1
      replace s1 := Lib.hid s1
      replace p2 := Lib.hid p2
      replace s2 := Lib.hid s2
      replace p3 := Lib.hid p3
      replace s3 := Lib.hid s3
      replace p4 := Lib.hid p4
      replace s4 := Lib.hid s4
      replace ic := Lib.hid ic
      replace c1 := Lib.hid c1
      replace c2 := Lib.hid c2
      replace nd := Lib.hid nd
      replace cv := Lib.hid cv
      replace cd := Lib.hid cd
      replace hdv := Lib.hid hdv
      replace ct := Lib.hid ct
      replace cu := Lib.hid cu
      replace rT := Lib.hid rT
      replace rF := Lib.hid rF
      replace rD := Lib.hid rD
      replace hF64 := Lib.hid hF64
      replace hT64 := Lib.hid hT64
      replace hD64 := Lib.hid hD64
      go_wp2_with fail
      refine (p1.out _ _ _ hG.out).mono ?_
      rintro e wn hO
      obtain ⟨Ap1, dp1, rfl, hp1, hb⟩ := hO.got hT64.out
      replace hp1 := Lib.hid hp1
      clear hO p1
      replace hB := Lib.hid (btr hB.out hb)
      replace hG := Lib.hid (hG.out.grow hb)
      clear hb
      go_wp2_with fail
      refine (s1.out _ _ _ hG.out).mono ?_
      rintro e wn hO
      obtain ⟨As1, ds1, rfl, hs1, hb⟩ := hO.got hT64.out
      replace hs1 := Lib.hid hs1
      clear hO s1
      replace hB := Lib.hid (btr hB.out hb)
      replace hG := Lib.hid (hG.out.grow hb)
      replace hp1 := Lib.hid (hp1.out.grow hb)
      clear hb
      go_wp2_with fail
      refine (rT.out _ _ _ _ _ hp1.out hs1.out).mono ?_
      rintro e wn ⟨rfl, hb⟩
      clear hs1
      replace hB := Lib.hid (btr hB.out hb)
      replace hG := Lib.hid (hG.out.grow hb)
      replace hp1 := Lib.hid (hp1.out.grow hb)
      clear hb
      go_wp2_with fail
      refine (ic.out _ _ _ hG.out).mono ?_
      rintro e wn ⟨rfl, hb⟩
      replace hB := Lib.hid (btr hB.out hb)
      replace hG := Lib.hid (hG.out.grow hb)
      replace hp1 := Lib.hid (hp1.out.grow hb)
      clear hb
      clear ic
      go_wp2_with fail
      refine (p2.out _ _ _ hG.out).mono ?_
      rintro e wn hO
      obtain ⟨Ap2, dp2, rfl, hp2, hb⟩ := hO.got hF64.out
      replace hp2 := Lib.hid hp2
      clear hO p2
      replace hB := Lib.hid (btr hB.out hb)
      replace hG := Lib.hid (hG.out.grow hb)
      replace hp1 := Lib.hid (hp1.out.grow hb)
      clear hb
      go_wp2_with fail
      refine (s2.out _ _ _ hG.out).mono ?_
      rintro e wn hO
      obtain ⟨As2, ds2, rfl, hs2, hb⟩ := hO.got hF64.out
      replace hs2 := Lib.hid hs2
      clear hO s2
      replace hB := Lib.hid (btr hB.out hb)
      replace hG := Lib.hid (hG.out.grow hb)
      replace hp1 := Lib.hid (hp1.out.grow hb)
      replace hp2 := Lib.hid (hp2.out.grow hb)
      clear hb
      go_wp2_with fail
      refine (rF.out _ _ _ _ _ hp2.out hs2.out).mono ?_
      rintro e wn ⟨rfl, hb⟩
      clear hs2
      replace hB := Lib.hid (btr hB.out hb)
      replace hG := Lib.hid (hG.out.grow hb)
      replace hp1 := Lib.hid (hp1.out.grow hb)
      replace hp2 := Lib.hid (hp2.out.grow hb)
      clear hb
      go_wp2_with fail
      refine (p3.out _ _ _ hG.out).mono ?_
      rintro e wn hO
      obtain ⟨Ap3, dp3, rfl, hb⟩ := hO.none
      clear hO p3
      replace hB := Lib.hid (btr hB.out hb)
      replace hG := Lib.hid (hG.out.grow hb)
      replace hp1 := Lib.hid (hp1.out.grow hb)
      replace hp2 := Lib.hid (hp2.out.grow hb)
      clear hb
      go_wp2_with fail
      refine (s3.out _ _ _ hG.out).mono ?_
      rintro e wn hO
      obtain ⟨As3, ds3, rfl, hb⟩ := hO.none
      clear hO s3
      replace hB := Lib.hid (btr hB.out hb)
      replace hG := Lib.hid (hG.out.grow hb)
      replace hp1 := Lib.hid (hp1.out.grow hb)
      replace hp2 := Lib.hid (hp2.out.grow hb)
      clear hb
      go_wp2_with fail
      refine (hr.out _ _ _ _ _).mono ?_
      rintro e wn ⟨rfl, hb⟩
      replace hB := Lib.hid (btr hB.out hb)
      replace hG := Lib.hid (hG.out.grow hb)
      replace hp1 := Lib.hid (hp1.out.grow hb)
      replace hp2 := Lib.hid (hp2.out.grow hb)
      clear hb
      go_wp2_with fail
      refine (p4.out _ _ _ hG.out).mono ?_
      rintro e wn hO
      obtain ⟨Ap4, dp4, rfl, hp4, hb⟩ := hO.got hD64.out
      replace hp4 := Lib.hid hp4
      clear hO p4
      replace hB := Lib.hid (btr hB.out hb)
      replace hG := Lib.hid (hG.out.grow hb)
      replace hp1 := Lib.hid (hp1.out.grow hb)
      replace hp2 := Lib.hid (hp2.out.grow hb)
      clear hb
      go_wp2_with fail
      refine (s4.out _ _ _ hG.out).mono ?_
      rintro e wn hO
      obtain ⟨As4, ds4, rfl, hs4, hb⟩ := hO.got hD64.out
      replace hs4 := Lib.hid hs4
      clear hO s4
      replace hB := Lib.hid (btr hB.out hb)
      replace hG := Lib.hid (hG.out.grow hb)
      replace hp1 := Lib.hid (hp1.out.grow hb)
      replace hp2 := Lib.hid (hp2.out.grow hb)
      replace hp4 := Lib.hid (hp4.out.grow hb)
      clear hb
      go_wp2_with fail
      refine (rD.out _ _ _ _ _ hp4.out hs4.out).mono ?_
      rintro e wn ⟨rfl, hb⟩
      clear hs4
      replace hB := Lib.hid (btr hB.out hb)
      replace hG := Lib.hid (hG.out.grow hb)
      replace hp1 := Lib.hid (hp1.out.grow hb)
      replace hp2 := Lib.hid (hp2.out.grow hb)
      replace hp4 := Lib.hid (hp4.out.grow hb)
      clear hb
      go_wp2_with fail
      refine (c1.out _ _ _ _ _ hG.out hp1.out).mono ?_
      rintro e wn ⟨rfl, hb⟩
      clear hp1 c1
      replace hB := Lib.hid (btr hB.out hb)
      replace hG := Lib.hid (hG.out.grow hb)
      replace hp2 := Lib.hid (hp2.out.grow hb)
      replace hp4 := Lib.hid (hp4.out.grow hb)
      clear hb
      go_wp2_with fail
      refine (c2.out _ _ _ _ _ hG.out hp2.out).mono ?_
      rintro e wn ⟨rfl, hb⟩
      clear hp2 c2
      replace hB := Lib.hid (btr hB.out hb)
      replace hG := Lib.hid (hG.out.grow hb)
      replace hp4 := Lib.hid (hp4.out.grow hb)
      clear hb
      go_wp2_with fail
      refine (nd.out _ _ _ hG.out).mono ?_
      rintro e wn ⟨B9, d9, rfl, hb⟩
      clear nd
      replace hB := Lib.hid (btr hB.out hb)
      replace hG := Lib.hid (hG.out.grow hb)
      replace hp4 := Lib.hid (hp4.out.grow hb)
      clear hb
      go_wp2_with fail
      try rw [hsh]
      try rw [show decide (T.length < F.length) = false from decide_eq_false (by omega)]
      go_loopw [31] (fun i wo => ∃ j : Nat, j ≤ 64 ∧ j ≤ N ∧ i = .int .i64 (j : Int) ∧ Hid (Below w1.heap.size w1 wo) ∧ Hid (GtAt wo A0 gs) ∧ Hid (GtAt wo Ap4 D)) (fun i _ => 64 - (intOf i).toNat)
      case atStart => exact ⟨0, by omega, by omega, rfl, hB, hG, hp4⟩
      case round =>
        rename World => wx
        clear hB hG hp4
        obtain ⟨j, hj, hjN, rfl, hB, hG, hp4⟩ := hrel
        by_cases hboth : j < N ∧ j < 64
        · obtain ⟨hjn, hj64⟩ := hboth
          have hji : (j : Int) < N := by omega
          have hj2 : (j : Int) < 64 := by omega
          obtain ⟨M, hM⟩ : ∃ M, N = M + 1 := ⟨N - 1, by omega⟩
          obtain ⟨t, ht⟩ : ∃ t, N - 1 - j = t := ⟨_, rfl⟩
          have hw1 : IntKind.i64.wrap ((N : Int) - 1) = (M : Int) := by rw [show (N : Int) - 1 = M by omega]; exact IntWalk.i64_in _ (by omega)
          have hw2 : IntKind.i64.wrap ((M : Int) - j) = (t : Int) := by rw [show (M : Int) - j = t by omega]; exact IntWalk.i64_in _ (by omega)
          have hcv := fun W A c h => cv.out j hjn W A c h
          have hcd := fun W A c h => cd.out j hjn W A c h
          have hdd := hdv.out j hjn
          rw [ht] at hcd hdd
          generalize cval gs j = x at hcv hdd
          rw [hdd] at hcd
          replace hcv := Lib.hid hcv
          replace hcd := Lib.hid hcd
          replace hM := Lib.hid hM
          replace ht := Lib.hid ht
          clear hdd
          go_wp2_with fail
          refine (hcv.out _ _ _ hG.out).mono ?_
          rintro e wn ⟨rfl, hb⟩
          replace hB := Lib.hid (btr hB.out hb)
          replace hG := Lib.hid (hG.out.grow hb)
          replace hp4 := Lib.hid (hp4.out.grow hb)
          clear hb
          go_wp2_with fail
          refine (hcd.out _ _ _ hp4.out).mono ?_
          rintro e wn ⟨rfl, hb⟩
          replace hB := Lib.hid (btr hB.out hb)
          replace hG := Lib.hid (hG.out.grow hb)
          replace hp4 := Lib.hid (hp4.out.grow hb)
          clear hb
          clear hcv hcd
          have e0 : (x == !x) = false := by cases x <;> rfl
          go_wp2_with fail
          go_roundw
          case rel => exact ⟨j + 1, by omega, by omega, by first | rfl | simp, hB, hG, hp4⟩
          case measure => simp [intOf]; omega
        · clear cv cd hdv
          by_cases hjn : j < N
          · have hji : (j : Int) < N := by omega
            have hj2 : ¬ (j : Int) < 64 := by omega
            have e5 : wx = wx := rfl
            go_wp2_with fail
            refine (ct.out _ _ _ hG.out).mono ?_
            rintro e wn ⟨rfl, hb⟩
            replace hB := Lib.hid (btr hB.out hb)
            replace hG := Lib.hid (hG.out.grow hb)
            replace hp4 := Lib.hid (hp4.out.grow hb)
            clear hb
            go_wp2_with fail
            refine (cu.out _ _ _ hp4.out).mono ?_
            rintro e wn ⟨rfl, hb⟩
            replace hB := Lib.hid (btr hB.out hb)
            clear hb
            clear hG hp4
            have hw3 : IntKind.i64.wrap ((k1 : Int) + k2) = (N : Int) := by rw [show (k1 : Int) + k2 = N by omega]; exact IntWalk.i64_in _ (by omega)
            have e3 : ((N : Int) == N) = true := by simp
            have e4 : ((k1 : Int) + k2 == N) = true := by rw [show (k1 : Int) + k2 = N by omega]; simp
            clear hcc
            go_wp2_with fail
            go_ret
            exact ⟨rfl, hB.out⟩
          · have hji : ¬ (j : Int) < N := by omega
            go_wp2_with fail
            refine (ct.out _ _ _ hG.out).mono ?_
            rintro e wn ⟨rfl, hb⟩
            replace hB := Lib.hid (btr hB.out hb)
            replace hG := Lib.hid (hG.out.grow hb)
            replace hp4 := Lib.hid (hp4.out.grow hb)
            clear hb
            go_wp2_with fail
            refine (cu.out _ _ _ hp4.out).mono ?_
            rintro e wn ⟨rfl, hb⟩
            replace hB := Lib.hid (btr hB.out hb)
            clear hb
            clear hG hp4
            have hw3 : IntKind.i64.wrap ((k1 : Int) + k2) = (N : Int) := by rw [show (k1 : Int) + k2 = N by omega]; exact IntWalk.i64_in _ (by omega)
            have e3 : ((N : Int) == N) = true := by simp
            have e4 : ((k1 : Int) + k2 == N) = true := by rw [show (k1 : Int) + k2 = N by omega]; simp
            clear hcc
            go_wp2_with fail
            go_ret
            exact ⟨rfl, hB.out⟩
    · have ht2 := of_decide_eq_true ht
      rw [ht] at p3 s3
      have hR64 := (hps ht2).1
      have hRl := (hps ht2).2
      have c3' := fun W A A' c c' h h' => c3 ht2 W A A' c c' h h'
      have rR := fun W A B c d (h : GtAt W A R) (h' : GtAt W B R) => rGates_same A B c d R W h h' (by omega)
      replace c3' := Lib.hid c3'
      replace hR64 := Lib.hid hR64
      replace rR := Lib.hid rR
      replace hpn := Lib.hid hpn
      clear ht ht2 hps c3
      replace p1 := Lib.hid p1
      replace s1 := Lib.hid s1
      replace p2 := Lib.hid p2
      replace s2 := Lib.hid s2
      replace p3 := Lib.hid p3
      replace s3 := Lib.hid s3
      replace p4 := Lib.hid p4
      replace s4 := Lib.hid s4
      replace ic := Lib.hid ic
      replace c1 := Lib.hid c1
      replace c2 := Lib.hid c2
      replace nd := Lib.hid nd
      replace cv := Lib.hid cv
      replace cd := Lib.hid cd
      replace hdv := Lib.hid hdv
      replace ct := Lib.hid ct
      replace cu := Lib.hid cu
      replace rT := Lib.hid rT
      replace rF := Lib.hid rF
      replace rD := Lib.hid rD
      replace hF64 := Lib.hid hF64
      replace hT64 := Lib.hid hT64
      replace hD64 := Lib.hid hD64
      go_wp2_with fail
      refine (p1.out _ _ _ hG.out).mono ?_
      rintro e wn hO
      obtain ⟨Ap1, dp1, rfl, hp1, hb⟩ := hO.got hT64.out
      replace hp1 := Lib.hid hp1
      clear hO p1
      replace hB := Lib.hid (btr hB.out hb)
      replace hG := Lib.hid (hG.out.grow hb)
      clear hb
      go_wp2_with fail
      refine (s1.out _ _ _ hG.out).mono ?_
      rintro e wn hO
      obtain ⟨As1, ds1, rfl, hs1, hb⟩ := hO.got hT64.out
      replace hs1 := Lib.hid hs1
      clear hO s1
      replace hB := Lib.hid (btr hB.out hb)
      replace hG := Lib.hid (hG.out.grow hb)
      replace hp1 := Lib.hid (hp1.out.grow hb)
      clear hb
      go_wp2_with fail
      refine (rT.out _ _ _ _ _ hp1.out hs1.out).mono ?_
      rintro e wn ⟨rfl, hb⟩
      clear hs1
      replace hB := Lib.hid (btr hB.out hb)
      replace hG := Lib.hid (hG.out.grow hb)
      replace hp1 := Lib.hid (hp1.out.grow hb)
      clear hb
      go_wp2_with fail
      refine (ic.out _ _ _ hG.out).mono ?_
      rintro e wn ⟨rfl, hb⟩
      replace hB := Lib.hid (btr hB.out hb)
      replace hG := Lib.hid (hG.out.grow hb)
      replace hp1 := Lib.hid (hp1.out.grow hb)
      clear hb
      clear ic
      go_wp2_with fail
      refine (p2.out _ _ _ hG.out).mono ?_
      rintro e wn hO
      obtain ⟨Ap2, dp2, rfl, hp2, hb⟩ := hO.got hF64.out
      replace hp2 := Lib.hid hp2
      clear hO p2
      replace hB := Lib.hid (btr hB.out hb)
      replace hG := Lib.hid (hG.out.grow hb)
      replace hp1 := Lib.hid (hp1.out.grow hb)
      clear hb
      go_wp2_with fail
      refine (s2.out _ _ _ hG.out).mono ?_
      rintro e wn hO
      obtain ⟨As2, ds2, rfl, hs2, hb⟩ := hO.got hF64.out
      replace hs2 := Lib.hid hs2
      clear hO s2
      replace hB := Lib.hid (btr hB.out hb)
      replace hG := Lib.hid (hG.out.grow hb)
      replace hp1 := Lib.hid (hp1.out.grow hb)
      replace hp2 := Lib.hid (hp2.out.grow hb)
      clear hb
      go_wp2_with fail
      refine (rF.out _ _ _ _ _ hp2.out hs2.out).mono ?_
      rintro e wn ⟨rfl, hb⟩
      clear hs2
      replace hB := Lib.hid (btr hB.out hb)
      replace hG := Lib.hid (hG.out.grow hb)
      replace hp1 := Lib.hid (hp1.out.grow hb)
      replace hp2 := Lib.hid (hp2.out.grow hb)
      clear hb
      go_wp2_with fail
      refine (p3.out _ _ _ hG.out).mono ?_
      rintro e wn hO
      obtain ⟨Ap3, dp3, rfl, hp3, hb⟩ := hO.got hR64.out
      replace hp3 := Lib.hid hp3
      clear hO p3
      replace hB := Lib.hid (btr hB.out hb)
      replace hG := Lib.hid (hG.out.grow hb)
      replace hp1 := Lib.hid (hp1.out.grow hb)
      replace hp2 := Lib.hid (hp2.out.grow hb)
      clear hb
      go_wp2_with fail
      refine (s3.out _ _ _ hG.out).mono ?_
      rintro e wn hO
      obtain ⟨As3, ds3, rfl, hs3, hb⟩ := hO.got hR64.out
      replace hs3 := Lib.hid hs3
      clear hO s3
      replace hB := Lib.hid (btr hB.out hb)
      replace hG := Lib.hid (hG.out.grow hb)
      replace hp1 := Lib.hid (hp1.out.grow hb)
      replace hp2 := Lib.hid (hp2.out.grow hb)
      replace hp3 := Lib.hid (hp3.out.grow hb)
      clear hb
      go_wp2_with fail
      refine (rR.out _ _ _ _ _ hp3.out hs3.out).mono ?_
      rintro e wn ⟨rfl, hb⟩
      clear hs3
      replace hB := Lib.hid (btr hB.out hb)
      replace hG := Lib.hid (hG.out.grow hb)
      replace hp1 := Lib.hid (hp1.out.grow hb)
      replace hp2 := Lib.hid (hp2.out.grow hb)
      replace hp3 := Lib.hid (hp3.out.grow hb)
      clear hb
      go_wp2_with fail
      refine (p4.out _ _ _ hG.out).mono ?_
      rintro e wn hO
      obtain ⟨Ap4, dp4, rfl, hp4, hb⟩ := hO.got hD64.out
      replace hp4 := Lib.hid hp4
      clear hO p4
      replace hB := Lib.hid (btr hB.out hb)
      replace hG := Lib.hid (hG.out.grow hb)
      replace hp1 := Lib.hid (hp1.out.grow hb)
      replace hp2 := Lib.hid (hp2.out.grow hb)
      replace hp3 := Lib.hid (hp3.out.grow hb)
      clear hb
      go_wp2_with fail
      refine (s4.out _ _ _ hG.out).mono ?_
      rintro e wn hO
      obtain ⟨As4, ds4, rfl, hs4, hb⟩ := hO.got hD64.out
      replace hs4 := Lib.hid hs4
      clear hO s4
      replace hB := Lib.hid (btr hB.out hb)
      replace hG := Lib.hid (hG.out.grow hb)
      replace hp1 := Lib.hid (hp1.out.grow hb)
      replace hp2 := Lib.hid (hp2.out.grow hb)
      replace hp3 := Lib.hid (hp3.out.grow hb)
      replace hp4 := Lib.hid (hp4.out.grow hb)
      clear hb
      go_wp2_with fail
      refine (rD.out _ _ _ _ _ hp4.out hs4.out).mono ?_
      rintro e wn ⟨rfl, hb⟩
      clear hs4
      replace hB := Lib.hid (btr hB.out hb)
      replace hG := Lib.hid (hG.out.grow hb)
      replace hp1 := Lib.hid (hp1.out.grow hb)
      replace hp2 := Lib.hid (hp2.out.grow hb)
      replace hp3 := Lib.hid (hp3.out.grow hb)
      replace hp4 := Lib.hid (hp4.out.grow hb)
      clear hb
      go_wp2_with fail
      refine (c1.out _ _ _ _ _ hG.out hp1.out).mono ?_
      rintro e wn ⟨rfl, hb⟩
      clear hp1 c1
      replace hB := Lib.hid (btr hB.out hb)
      replace hG := Lib.hid (hG.out.grow hb)
      replace hp2 := Lib.hid (hp2.out.grow hb)
      replace hp3 := Lib.hid (hp3.out.grow hb)
      replace hp4 := Lib.hid (hp4.out.grow hb)
      clear hb
      go_wp2_with fail
      refine (c2.out _ _ _ _ _ hG.out hp2.out).mono ?_
      rintro e wn ⟨rfl, hb⟩
      clear hp2 c2
      replace hB := Lib.hid (btr hB.out hb)
      replace hG := Lib.hid (hG.out.grow hb)
      replace hp3 := Lib.hid (hp3.out.grow hb)
      replace hp4 := Lib.hid (hp4.out.grow hb)
      clear hb
      go_wp2_with fail
      refine (nd.out _ _ _ hG.out).mono ?_
      rintro e wn ⟨B9, d9, rfl, hb⟩
      clear nd
      replace hB := Lib.hid (btr hB.out hb)
      replace hG := Lib.hid (hG.out.grow hb)
      replace hp3 := Lib.hid (hp3.out.grow hb)
      replace hp4 := Lib.hid (hp4.out.grow hb)
      clear hb
      go_wp2_with fail
      refine (c3'.out _ _ _ _ _ hG.out hp3.out).mono ?_
      rintro e wn ⟨rfl, hb⟩
      clear c3'
      replace hB := Lib.hid (btr hB.out hb)
      replace hG := Lib.hid (hG.out.grow hb)
      replace hp3 := Lib.hid (hp3.out.grow hb)
      replace hp4 := Lib.hid (hp4.out.grow hb)
      clear hb
      go_wp2_with fail
      go_loopw [29] (fun i wo => ∃ j : Nat, j ≤ R.length ∧ i = .int .i64 (j : Int) ∧ wo = wn) (fun i _ => R.length - (intOf i).toNat)
      case atStart => exact ⟨0, Nat.zero_le _, rfl, rfl⟩
      case round =>
        rename World => wo
        obtain ⟨j, hj, rfl, rfl⟩ := hrel
        by_cases hlt : j < R.length
        · have hji : (j : Int) < R.length := by omega
          obtain ⟨rb, ro, e, m0, m1, m2⟩ := hp3.out.at_ j hlt
          have hnv := hpn.out j hlt
          by_cases hk4 : R[j].k = 4
          · obtain ⟨i2, e1, e2, e3⟩ := hnv hk4
            have hi2 : i2 < R.length := by omega
            have hi2i : (i2 : Int) < R.length := by omega
            obtain ⟨rb2, ro2, e', n0, -, -⟩ := hp3.out.at_ i2 hi2
            rw [List.getD_eq_getElem?_getD, List.getElem?_eq_getElem hi2] at e3
            replace e3 : R[i2].k = 1 := e3
            rw [e3] at n0
            rw [e1] at m1
            rw [hk4] at m0
            cases e
            cases e'
            go_wp2_with fail
            go_roundw
            case rel => exact ⟨j + 1, by omega, by first | rfl | simp, by first | rfl | trivial⟩
            case measure => simp [intOf]; omega
          · generalize R[j].k = rk at m0 hk4
            clear hnv m1 m2
            cases e
            have hk4' : (rk == 4) = false := beq_eq_false_iff_ne.2 hk4
            go_wp2_with fail
            go_roundw
            case rel => exact ⟨j + 1, by omega, by first | rfl | simp, by first | rfl | trivial⟩
            case measure => simp [intOf]; omega
        · obtain rfl : j = R.length := by omega
          go_wp2_with fail
          try rw [hsh]
          try rw [show decide (T.length < F.length) = false from decide_eq_false (by omega)]
          go_loopw [31] (fun i wo => ∃ j : Nat, j ≤ 64 ∧ j ≤ N ∧ i = .int .i64 (j : Int) ∧ Hid (Below w1.heap.size w1 wo) ∧ Hid (GtAt wo A0 gs) ∧ Hid (GtAt wo Ap4 D)) (fun i _ => 64 - (intOf i).toNat)
          case atStart => exact ⟨0, by omega, by omega, rfl, hB, hG, hp4⟩
          case round =>
            rename World => wx
            clear hB hG hp4
            obtain ⟨j, hj, hjN, rfl, hB, hG, hp4⟩ := hrel
            by_cases hboth : j < N ∧ j < 64
            · obtain ⟨hjn, hj64⟩ := hboth
              have hji : (j : Int) < N := by omega
              have hj2 : (j : Int) < 64 := by omega
              obtain ⟨M, hM⟩ : ∃ M, N = M + 1 := ⟨N - 1, by omega⟩
              obtain ⟨t, ht⟩ : ∃ t, N - 1 - j = t := ⟨_, rfl⟩
              have hw1 : IntKind.i64.wrap ((N : Int) - 1) = (M : Int) := by rw [show (N : Int) - 1 = M by omega]; exact IntWalk.i64_in _ (by omega)
              have hw2 : IntKind.i64.wrap ((M : Int) - j) = (t : Int) := by rw [show (M : Int) - j = t by omega]; exact IntWalk.i64_in _ (by omega)
              have hcv := fun W A c h => cv.out j hjn W A c h
              have hcd := fun W A c h => cd.out j hjn W A c h
              have hdd := hdv.out j hjn
              rw [ht] at hcd hdd
              generalize cval gs j = x at hcv hdd
              rw [hdd] at hcd
              replace hcv := Lib.hid hcv
              replace hcd := Lib.hid hcd
              replace hM := Lib.hid hM
              replace ht := Lib.hid ht
              clear hdd
              go_wp2_with fail
              refine (hcv.out _ _ _ hG.out).mono ?_
              rintro e wn ⟨rfl, hb⟩
              replace hB := Lib.hid (btr hB.out hb)
              replace hG := Lib.hid (hG.out.grow hb)
              replace hp4 := Lib.hid (hp4.out.grow hb)
              clear hb
              go_wp2_with fail
              refine (hcd.out _ _ _ hp4.out).mono ?_
              rintro e wn ⟨rfl, hb⟩
              replace hB := Lib.hid (btr hB.out hb)
              replace hG := Lib.hid (hG.out.grow hb)
              replace hp4 := Lib.hid (hp4.out.grow hb)
              clear hb
              clear hcv hcd
              have e0 : (x == !x) = false := by cases x <;> rfl
              go_wp2_with fail
              go_roundw
              case rel => exact ⟨j + 1, by omega, by omega, by first | rfl | simp, hB, hG, hp4⟩
              case measure => simp [intOf]; omega
            · clear cv cd hdv
              by_cases hjn : j < N
              · have hji : (j : Int) < N := by omega
                have hj2 : ¬ (j : Int) < 64 := by omega
                have e5 : wx = wx := rfl
                go_wp2_with fail
                refine (ct.out _ _ _ hG.out).mono ?_
                rintro e wn ⟨rfl, hb⟩
                replace hB := Lib.hid (btr hB.out hb)
                replace hG := Lib.hid (hG.out.grow hb)
                replace hp4 := Lib.hid (hp4.out.grow hb)
                clear hb
                go_wp2_with fail
                refine (cu.out _ _ _ hp4.out).mono ?_
                rintro e wn ⟨rfl, hb⟩
                replace hB := Lib.hid (btr hB.out hb)
                clear hb
                clear hG hp4
                have hw3 : IntKind.i64.wrap ((k1 : Int) + k2) = (N : Int) := by rw [show (k1 : Int) + k2 = N by omega]; exact IntWalk.i64_in _ (by omega)
                have e3 : ((N : Int) == N) = true := by simp
                have e4 : ((k1 : Int) + k2 == N) = true := by rw [show (k1 : Int) + k2 = N by omega]; simp
                clear hcc
                go_wp2_with fail
                go_ret
                exact ⟨rfl, hB.out⟩
              · have hji : ¬ (j : Int) < N := by omega
                go_wp2_with fail
                refine (ct.out _ _ _ hG.out).mono ?_
                rintro e wn ⟨rfl, hb⟩
                replace hB := Lib.hid (btr hB.out hb)
                replace hG := Lib.hid (hG.out.grow hb)
                replace hp4 := Lib.hid (hp4.out.grow hb)
                clear hb
                go_wp2_with fail
                refine (cu.out _ _ _ hp4.out).mono ?_
                rintro e wn ⟨rfl, hb⟩
                replace hB := Lib.hid (btr hB.out hb)
                clear hb
                clear hG hp4
                have hw3 : IntKind.i64.wrap ((k1 : Int) + k2) = (N : Int) := by rw [show (k1 : Int) + k2 = N by omega]; exact IntWalk.i64_in _ (by omega)
                have e3 : ((N : Int) == N) = true := by simp
                have e4 : ((k1 : Int) + k2 == N) = true := by rw [show (k1 : Int) + k2 = N by omega]; simp
                clear hcc
                go_wp2_with fail
                go_ret
                exact ⟨rfl, hB.out⟩
end Go.Proofs.Ytkhopkonddgicaa
