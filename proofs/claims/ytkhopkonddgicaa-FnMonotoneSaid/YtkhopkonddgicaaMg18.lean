/- Lemmas and contracts for a law, put together out of several texts: WalkMonotone. -/
import Derived.Test.YtkhopkonddgicaaMg16
import Derived.Test.YtkhopkonddgicaaMg17
import Derived.Deep.DeepCutAuto
/- The walk of FnMonotone. Printed by gen_mono.py. -/
namespace Go.Proofs.Ytkhopkonddgicaa
open Go.RowKit

set_option maxRecDepth 100000 in
set_option maxHeartbeats 16000000 in
theorem FnMonotone_walk (ca : Option Addr) (cl cc : Nat) (w : World) (hc : CodeOk w ca cl) :
    Calls Try.prog 5 #[.slice ca cl cc] w fun e w' => e = .returned (.bool true) ∧ Below w.heap.size w w' := by
  have hcH := Lib.hid hc
  clear hc
  by_cases hbig : (65536 : Int) < (cl : Int)
  · go_enter Try.func5, Try.ntmps5
    go_wp2_with fail
    refine (rBig_any _ _ _ _).mono ?_
    rintro e w1 ⟨rfl, rfl⟩
    rw [decide_eq_true hbig]
    go_wp2_with fail
    go_ret
    exact ⟨rfl, bb _⟩
  have hsm : cl ≤ 65536 := by omega
  have hv := Lib.hid (decide_eq_false hbig)
  clear hbig
  go_enter Try.func5, Try.ntmps5
  go_wp2_with fail
  refine (rBig_any _ _ _ _).mono ?_
  rintro e w1 ⟨rfl, rfl⟩
  rw [hv.out]
  clear hv
  go_wp2_with fail
  refine (drawMono_any ca cl cc w1 hcH.out hsm).mono ?_
  rintro e wn ⟨vars, A0, d0, gs, rfl, hv0, hv1, hgl, hG, hb⟩
  replace hG := Lib.hid hG
  have hB := Lib.hid hb
  clear hb
  have m1 := fun W A c (h : GtAt W A gs) => isMonotoneM_any vars A c gs W h (by omega)
  have m2 := fun W A c (h : GtAt W A gs) => specMono_any vars A c gs W h (by omega)
  obtain ⟨ok, hok⟩ : ∃ ok, circB vars gs = ok := ⟨_, rfl⟩
  rw [hok] at m1 m2
  obtain ⟨im, him⟩ : ∃ im, (ok && monoB gs) = im := ⟨_, rfl⟩
  rw [him] at m1 m2
  replace m1 := Lib.hid m1
  replace m2 := Lib.hid m2
  replace hok := Lib.hid hok
  replace him := Lib.hid him
  go_wp2_with fail
  refine (m1.out _ _ _ hG.out).mono ?_
  rintro e wn ⟨rfl, hb⟩
  replace hB := Lib.hid (btr hB.out hb)
  replace hG := Lib.hid (hG.out.grow hb)
  clear hb
  go_wp2_with fail
  refine (m2.out _ _ _ hG.out).mono ?_
  rintro e wn ⟨rfl, hb⟩
  replace hB := Lib.hid (btr hB.out hb)
  replace hG := Lib.hid (hG.out.grow hb)
  clear hb
  clear m1 m2
  have e0 : (im != im) = false := by cases im <;> rfl
  have e1 : (ok != ok) = false := by cases ok <;> rfl
  go_upto_region 8 with fail
  go_cut [76] (fun s wx => ∃ z : Bool, s = .bool z ∧ Hid (z = (ok && im)) ∧ wx = wn)
  case first =>
    clear hok him hG hB e0 e1
    cases ok
    · go_wp2_with fail
      go_meet
      exact ⟨false, rfl, rfl, rfl⟩
    · go_wp2_with fail
      go_meet
      exact ⟨im, rfl, rfl, rfl⟩
  case rest =>
    obtain ⟨z, rfl, hz, rfl⟩ := hcut
    go_upto_if 76 with fail
    go_cut [] (fun wx => Hid (Below w1.heap.size w1 wx))
    case first => exact FnMonotone_p1 _ _ _ _ _ _ _ _ _ _ _ _ hv0 hv1 hgl hok him hz hB hG (by assumption) (by assumption)
    case rest =>
      rename World => wp
      clear hok him hG hB e0 e1 hz
      have hB := hcut
      clear hcut
      clear hv0 hv1 hgl
      go_wp2_with fail
      refine (drawRestrict_any ca cl cc _ (hcH.out.grow hB.out) hsm).mono ?_
      rintro e wn ⟨vars, A0, d0, gs, v, val, rfl, hv0, hv1, hgl, hG, hb⟩
      replace hG := Lib.hid hG
      replace hB := Lib.hid (btr hB.out hb)
      clear hb
      have h64 : (circB vars gs && inB v 1 vars) = true → ∀ x ∈ restG v val gs, gtOk x := fun h => by
        rw [Bool.and_eq_true] at h
        have hr := circ_vars (rest_circ (v := v) (val := val) h.1)
        exact gt_small hr.2.2.2.2 (by omega) (by omega)
      have r1 := fun W A c (h : GtAt W A gs) => (restrict_any vars v val A c gs W h (by omega)).mono fun e w' hO => hO.both h64
      have r2 := fun W A c (h : GtAt W A gs) => (specRestrict_any vars v val A c gs W h (by omega)).mono fun e w' hO => hO.both h64
      obtain ⟨ok, hok⟩ : ∃ ok, (circB vars gs && inB v 1 vars) = ok := ⟨_, rfl⟩
      simp only [hok] at r1 r2
      obtain ⟨L, hL⟩ : ∃ L, (if ok then restG v val gs else []) = L := ⟨_, rfl⟩
      have hLl : L.length ≤ 1000 := by
        rw [← hL]
        cases ok
        · simp
        · simp only [if_true]; rw [restG_len]; omega
      simp only [hL] at r1 r2
      have hr := fun W A B c d (h : GtAt W A L) (h' : GtAt W B L) => rGates_same A B c d L W h h' (by omega)
      replace r1 := Lib.hid r1
      replace r2 := Lib.hid r2
      replace hr := Lib.hid hr
      replace hok := Lib.hid hok
      replace hL := Lib.hid hL
      clear h64
      go_wp2_with fail
      refine (r1.out _ _ _ hG.out).mono ?_
      rintro e wn ⟨A1, d1, rfl, hp, hb⟩
      replace hp := Lib.hid hp
      replace hB := Lib.hid (btr hB.out hb)
      replace hG := Lib.hid (hG.out.grow hb)
      clear hb
      go_wp2_with fail
      refine (r2.out _ _ _ hG.out).mono ?_
      rintro e wn ⟨A2, d2, rfl, hs, hb⟩
      replace hs := Lib.hid hs
      replace hB := Lib.hid (btr hB.out hb)
      replace hG := Lib.hid (hG.out.grow hb)
      replace hp := Lib.hid (hp.out.grow hb)
      clear hb
      have e1 : (ok != ok) = false := by cases ok <;> rfl
      go_wp2_with fail
      refine (hr.out _ _ _ _ _ hp.out hs.out).mono ?_
      rintro e wn ⟨rfl, hb⟩
      replace hB := Lib.hid (btr hB.out hb)
      replace hG := Lib.hid (hG.out.grow hb)
      replace hp := Lib.hid (hp.out.grow hb)
      clear hb
      clear r1 r2 hr hs
      go_upto_if 154 with fail
      go_cut [] (fun wx => Hid (Below w1.heap.size w1 wx))
      case first => exact FnMonotone_p2 _ _ _ _ _ _ _ _ _ _ _ _ _ _ _ _ _ _ hv0 hv1 hgl hLl hok hL hB hG hp (by assumption) (by assumption)
      case rest =>
        rename World => wq
        clear hok hL hG hp hB e1
        have hB := hcut
        clear hcut
        clear hv0 hv1 hgl hLl
        go_wp2_with fail
        refine (drawJoin_any ca cl cc _ (hcH.out.grow hB.out) hsm).mono ?_
        rintro e wn ⟨vars, kind, A0, A3, d0, d3, gs, ys, rfl, hv0, hv1, hgl, hyl, hG, hY, hb⟩
        replace hG := Lib.hid hG
        replace hY := Lib.hid hY
        replace hB := Lib.hid (btr hB.out hb)
        clear hb
        have hjo : joinOk vars kind gs ys = true → circB vars gs = true ∧ circB vars ys = true ∧ (kind = 5 ∨ kind = 6) ∧ gs.length + ys.length < 200 := fun h => by
          unfold joinOk at h
          simp only [Bool.and_eq_true, Bool.or_eq_true, decide_eq_true_eq] at h
          exact ⟨h.1, h.2.1, h.2.2.1, h.2.2.2⟩
        have h64 : joinOk vars kind gs ys = true → ∀ x ∈ joinG kind gs ys, gtOk x := fun h => by
          obtain ⟨h1, h2, h3, h4⟩ := hjo h
          have hr := circ_vars (join_circ h1 h2 h3 h4)
          exact gt_small hr.2.2.2.2 (by omega) (by omega)
        have r1 := fun W A A' c c' (h : GtAt W A gs) (h' : GtAt W A' ys) => (join_any vars kind A A' c c' gs ys W h h' (by omega) (by omega)).mono fun e w' hO => hO.both h64
        have r2 := fun W A A' c c' (h : GtAt W A gs) (h' : GtAt W A' ys) => (specJoin_any vars kind A A' c c' gs ys W h h' (by omega) (by omega)).mono fun e w' hO => hO.both h64
        obtain ⟨ok, hok⟩ : ∃ ok, joinOk vars kind gs ys = ok := ⟨_, rfl⟩
        simp only [hok] at r1 r2 hjo
        obtain ⟨L, hL⟩ : ∃ L, (if ok then joinG kind gs ys else []) = L := ⟨_, rfl⟩
        have hLl : L.length ≤ 1000 := by
          rw [← hL]
          cases ok
          · simp
          · simp only [if_true]; rw [joinG_len]; omega
        simp only [hL] at r1 r2
        have hr := fun W A B c d (h : GtAt W A L) (h' : GtAt W B L) => rGates_same A B c d L W h h' (by omega)
        replace r1 := Lib.hid r1
        replace r2 := Lib.hid r2
        replace hr := Lib.hid hr
        replace hjo := Lib.hid hjo
        replace hL := Lib.hid hL
        clear h64 hok
        go_wp2_with fail
        refine (r1.out _ _ _ _ _ hG.out hY.out).mono ?_
        rintro e wn ⟨A1, d1, rfl, hp, hb⟩
        replace hp := Lib.hid hp
        replace hB := Lib.hid (btr hB.out hb)
        replace hG := Lib.hid (hG.out.grow hb)
        replace hY := Lib.hid (hY.out.grow hb)
        clear hb
        go_wp2_with fail
        refine (r2.out _ _ _ _ _ hG.out hY.out).mono ?_
        rintro e wn ⟨A2, d2, rfl, hs, hb⟩
        replace hs := Lib.hid hs
        replace hB := Lib.hid (btr hB.out hb)
        replace hG := Lib.hid (hG.out.grow hb)
        replace hY := Lib.hid (hY.out.grow hb)
        replace hp := Lib.hid (hp.out.grow hb)
        clear hb
        have e1 : (ok != ok) = false := by cases ok <;> rfl
        go_wp2_with fail
        refine (hr.out _ _ _ _ _ hp.out hs.out).mono ?_
        rintro e wn ⟨rfl, hb⟩
        replace hB := Lib.hid (btr hB.out hb)
        replace hG := Lib.hid (hG.out.grow hb)
        replace hY := Lib.hid (hY.out.grow hb)
        replace hp := Lib.hid (hp.out.grow hb)
        clear hb
        clear r1 r2 hr hs
        go_upto_if 246 with fail
        go_cut [] (fun wx => Hid (Below w1.heap.size w1 wx))
        case first => exact FnMonotone_p3 _ _ _ _ _ _ _ _ _ _ _ _ _ _ _ _ _ _ _ _ _ _ hv0 hv1 hgl hyl hLl hjo hL hB hG hY hp (by assumption) (by assumption)
        case rest =>
          clear hjo hL hG hY hp hB e1
          go_wp2_with fail
          go_ret
          exact ⟨rfl, hcut.out⟩
end Go.Proofs.Ytkhopkonddgicaa
