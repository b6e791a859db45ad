/- Lemmas and contracts for a law, put together out of several texts: WalkAssignments. -/
import Derived.Test.YtmikconjhmhekaaMg11
import Derived.Deep.DeepCutAuto
/- The walk of FnAssignments. -/
namespace Go.Proofs.Ytmikconjhmhekaa
open Go.RowKit

theorem vBigA_any (ca : Option Addr) (cl cc : Nat) (w : World) : Calls Try.prog 45 #[.slice ca cl cc] w fun e w' => e = .returned (.bool (decide ((65536 : Int) < (cl : Int)))) ∧ w' = w := by
  go_enter Try.func45, Try.ntmps45
  go_wp2_with fail
  go_ret
  exact ⟨rfl, rfl⟩
theorem row_of_own {w0 w : World} {ps : List Asn} {i : Nat} {v : Value} {d : List Int} (h : Sp w0 w ps) (hi : ps[i]? = some (Own 3 1 v d.length (d.map (.int .i64)))) (hd : ∀ x ∈ d, I64 x) : ∃ F, Ty.int.row false w v d F := by
  obtain ⟨F, hr, -, -⟩ := own_row (h.own hi) hd
  exact ⟨F, Ty.row_down hr⟩
theorem tot_facts (vars x : Int) : ∃ (ok : Bool) (L : List Int), totOk vars x = ok ∧ totL vars x = L ∧ (∀ y ∈ L, I64 y) ∧ L.length ≤ 12 ∧ (ok = true → ∃ n b : Nat, vars = n ∧ x = b ∧ n ≤ 12 ∧ b < 2 ^ n ∧ L = totB n b ∧ clauseB n L = true) := by
  refine ⟨_, _, rfl, rfl, ?_⟩
  unfold totL
  cases hq : totOk vars x
  · simp
  · obtain ⟨h1, h2, h3, h4⟩ := totOk_parts hq
    simp only [if_true]
    obtain ⟨n, rfl⟩ := Int.eq_ofNat_of_zero_le h1
    obtain ⟨b, rfl⟩ := Int.eq_ofNat_of_zero_le h3
    rw [show ((n : Int)).toNat = n by omega, show ((b : Int)).toNat = b by omega] at *
    exact ⟨tot_ok n b (by omega), by rw [tot_len]; omega, fun _ => ⟨n, b, rfl, rfl, by omega, h4, rfl, tot_clause (by omega)⟩⟩
theorem merge_gen (vars : Int) (a b : List Int) (la : a.length ≤ 13) (lb : b.length ≤ 13) : ∃ (ok : Bool) (L : List Int), (mergeR vars a b).isSome = ok ∧ (mergeR vars a b).getD [] = L ∧ (∀ y ∈ L, I64 y) ∧ L.length ≤ 1000 ∧ (ok = true → clauseB vars a = true ∧ clauseB vars b = true ∧ clauseB vars L = true ∧ a.all (hasI L) = true ∧ b.all (hasI L) = true) := by
  refine ⟨_, _, rfl, rfl, ?_, mergeR_len la lb, ?_⟩
  · cases h : mergeR vars a b with
    | none => simp
    | some c => exact fun y hy => ((good_s (merge_facts h).2.2.1).mem y hy).i64
  · cases h : mergeR vars a b with
    | none => simp
    | some c => exact fun _ => merge_facts h
theorem set_gen (vars : Int) (a : List Int) (l : Int) : ∃ (ok : Bool) (L : List Int), (setR vars a l).isSome = ok ∧ (setR vars a l).getD [] = L ∧ (∀ y ∈ L, I64 y) ∧ L.length ≤ 1000 ∧ (ok = true → clauseB vars L = true ∧ inB (absV l) 1 vars = true ∧ hasI (withoutB L (absV l)) l = false ∧ hasI L l = true ∧ absV l = if l < 0 then -l else l) := by
  refine ⟨_, _, rfl, rfl, ?_, setR_len, ?_⟩
  · cases h : setR vars a l with
    | none => simp
    | some c => exact fun y hy => ((good_s (set_facts h).1).mem y hy).i64
  · cases h : setR vars a l with
    | none => simp
    | some c => exact fun _ => set_facts h

set_option maxRecDepth 100000 in
set_option maxHeartbeats 16000000 in
theorem FnAssignments_walk (ca : Option Addr) (cl cc : Nat) (w : World) (hc : CodeOk w ca cl) :
    Calls Try.prog 8 #[.slice ca cl cc] w fun e w' => e = .returned (.bool true) ∧ Below w.heap.size w w' := by
  have hcH := Lib.hid hc
  clear hc
  by_cases hbig : (65536 : Int) < (cl : Int)
  · go_enter Try.func8, Try.ntmps8
    go_wp2_with fail
    refine (vBigA_any _ _ _ _).mono ?_
    rintro e w1 ⟨rfl, rfl⟩
    rw [decide_eq_true hbig]
    go_wp2_with fail
    go_ret
    exact ⟨rfl, bb _⟩
  have hsm : cl ≤ 65536 := by omega
  have hv := Lib.hid (decide_eq_false hbig)
  clear hbig
  go_enter Try.func8, Try.ntmps8
  go_wp2_with fail
  refine (vBigA_any _ _ _ _).mono ?_
  rintro e w1 ⟨rfl, rfl⟩
  rw [hv.out]
  clear hv
  go_wp2_with fail
  refine (drawTotalOf_any ca cl cc w1 hcH.out hsm).mono ?_
  rintro e w2 ⟨vars, x, rfl, hv0, hv1, hx0, hx1, hB2⟩
  obtain ⟨ok, L, h1, h2, hLI, hLl, hyes⟩ := tot_facts vars x
  have q1 := Lib.hid (fun W => implTotalOf_any vars x W)
  have q2 := Lib.hid (fun W => specTotalOf_any vars x W)
  rw [h1, h2] at q1 q2
  replace hB2 := Lib.hid hB2
  replace hLI := Lib.hid hLI
  replace hyes := Lib.hid hyes
  clear h1 h2 hv0 hv1 hx0 hx1
  have e1 : (ok != ok) = false := by cases ok <;> rfl
  go_wp2_with fail
  refine (q1.out _).mono ?_
  rintro e w3 ⟨D, dc, rfl, T⟩
  have S3 : Hid (Sp w1 w3 [Own 3 1 (.slice D L.length dc) L.length (L.map (.int .i64))]) := (Sp.of_below hB2.out).seq T
  clear T q1 hB2
  go_wp2_with fail
  refine (q2.out _).mono ?_
  rintro e w4 ⟨E, ec, rfl, T⟩
  have S4 : Hid (Sp w1 w4 [Own 3 1 (.slice E L.length ec) L.length (L.map (.int .i64)), Own 3 1 (.slice D L.length dc) L.length (L.map (.int .i64))]) := S3.out.seq T
  have hvi := Lib.hid (vInts_same D E dc ec L w4 (S4.out.ints (i := 1) rfl hLI.out) (S4.out.ints (i := 0) rfl hLI.out) (by omega))
  clear T q2 S3
  go_wp2_with fail
  refine hvi.out.mono ?_
  rintro e w5 ⟨rfl, hb5⟩
  have S5 : Hid (Sp w1 w5 [Own 3 1 (.slice D L.length dc) L.length (L.map (.int .i64))]) := Lib.hid ((S4.out.grow hb5).pick [1] rfl)
  clear S4 hvi hb5 e1
  go_upto_if 60 with fail
  go_cut [] (fun wx => Hid (Below w1.heap.size w1 wx))
  case first =>
    as_aux_lemma =>
      cases ok
      · have hB := Lib.hid S5.out.below
        clear S5
        go_wp2_with fail
        go_meet
        exact hB
      · obtain ⟨n, b, rfl, rfl, hn, hb, rfl, hcl⟩ := hyes.out rfl
        obtain ⟨F, hr⟩ := row_of_own S5.out (i := 0) rfl hLI.out
        have hbt := Lib.hid (bitsOfTotal_any n b hn hb D dc F _ hr hcl)
        have hia := Lib.hid (fun W (h : Below w5.heap.size w5 W) => implIsAssignment_any n _ _ F W (Ty.row_grow hr h))
        rw [hcl] at hia
        have hbb : ((b : Int) != (b : Int)) = false := by simp
        generalize totB n b = L at *
        clear hyes hr hLI hcl hb
        go_wp2_with fail
        refine hbt.out.mono ?_
        rintro e w6 ⟨rfl, hb6⟩
        have S6 := Lib.hid (S5.out.grow hb6)
        have hia2 := Lib.hid (hia.out w6 hb6)
        clear S5 hbt hia hb6
        go_wp2_with fail
        refine hia2.out.mono ?_
        rintro e w7 ⟨rfl, hb7⟩
        have hB := Lib.hid (S6.out.grow hb7).below
        clear S6 hia2 hb7
        go_wp2_with fail
        go_meet
        exact hB
  case rest =>
  have HB := hcut
  clear hcut S5 hyes hLI hLl
  go_wp2_with fail
  refine (drawMerge_any ca cl cc _ (hcH.out.grow HB.out) hsm).mono ?_
  rintro e w8 ⟨va, D1, E1, dc1, ec1, d, f, rfl, hv0, hv1, hdl, hfl, hD, hF, T⟩
  have S8 : Hid (Sp w1 w8 [Own 3 1 (.slice D1 d.length dc1) d.length (d.map (.int .i64)), Own 3 1 (.slice E1 f.length ec1) f.length (f.map (.int .i64))]) := (Sp.of_below HB.out).seq T
  obtain ⟨fine, M, h1, h2, hMI, hMl, hyes⟩ := merge_gen va d f hdl hfl
  obtain ⟨Fd, hrd⟩ := row_of_own S8.out (i := 0) rfl hD
  obtain ⟨Ff, hrf⟩ := row_of_own S8.out (i := 1) rfl hF
  have q1 := implMerge_any va d D1 dc1 Fd f E1 ec1 Ff w8 hrd hrf
  have q2 := fun W (h : Below w8.heap.size w8 W) => specMerge_any va d D1 dc1 Fd f E1 ec1 Ff W (Ty.row_grow hrd h) (Ty.row_grow hrf h)
  rw [h1, h2] at q1 q2
  replace q1 := Lib.hid q1
  replace q2 := Lib.hid q2
  replace hMI := Lib.hid hMI
  replace hD := Lib.hid hD
  replace hF := Lib.hid hF
  replace hyes := Lib.hid hyes
  clear h1 h2 hrd hrf T HB hv0 hv1
  have e2 : (fine != fine) = false := by cases fine <;> rfl
  go_wp2_with fail
  refine q1.out.mono ?_
  rintro e w9 ⟨D, dc, rfl, T⟩
  have S9 : Hid (Sp w1 w9 [Own 3 1 (.slice D M.length dc) M.length (M.map (.int .i64)), Own 3 1 (.slice D1 d.length dc1) d.length (d.map (.int .i64)), Own 3 1 (.slice E1 f.length ec1) f.length (f.map (.int .i64))]) := S8.out.seq T
  have q3 := Lib.hid (q2.out w9 T.below)
  clear T q1 q2 S8
  go_wp2_with fail
  refine q3.out.mono ?_
  rintro e w10 ⟨E, ec, rfl, hZ, hb10⟩
  have S10 := Lib.hid (S9.out.grow hb10)
  have hvi := Lib.hid (vInts_same D E dc ec M w10 (S10.out.ints (i := 0) rfl hMI.out) hZ (by omega))
  clear q3 S9 hb10 hZ
  go_wp2_with fail
  refine hvi.out.mono ?_
  rintro e w11 ⟨rfl, hb11⟩
  have S11 := Lib.hid (S10.out.grow hb11)
  clear S10 hvi hb11 e2
  go_upto_if 109 with fail
  go_cut [] (fun wx => Hid (Below w1.heap.size w1 wx))
  case first =>
    as_aux_lemma =>
      cases fine
      · have hB := Lib.hid S11.out.below
        clear S11
        go_wp2_with fail
        go_meet
        exact hB
      · obtain ⟨c1, c2, c3, a1, a2⟩ := hyes.out rfl
        obtain ⟨Fm, hrm⟩ := row_of_own S11.out (i := 0) rfl hMI.out
        obtain ⟨Fd, hrd⟩ := row_of_own S11.out (i := 1) rfl hD.out
        obtain ⟨Ff, hrf⟩ := row_of_own S11.out (i := 2) rfl hF.out
        have x1 := implExtend_any va d D1 dc1 Fd M D dc Fm w11 hrd c1 hrm c3
        have x2 := fun W (h : Below w11.heap.size w11 W) => implExtend_any va f E1 ec1 Ff M D dc Fm W (Ty.row_grow hrf h) c2 (Ty.row_grow hrm h) c3
        rw [a1] at x1
        rw [a2] at x2
        replace x1 := Lib.hid x1
        replace x2 := Lib.hid x2
        clear hyes hrm hrd hrf c1 c2 c3 a1 a2 hMI hD hF
        go_wp2_with fail
        refine x1.out.mono ?_
        rintro e w12 ⟨rfl, hb12⟩
        have S12 := Lib.hid (S11.out.grow hb12)
        have x3 := Lib.hid (x2.out w12 hb12)
        clear S11 x1 x2 hb12
        go_wp2_with fail
        refine x3.out.mono ?_
        rintro e w13 ⟨rfl, hb13⟩
        have hB := Lib.hid (S12.out.grow hb13).below
        clear S12 x3 hb13
        go_wp2_with fail
        go_meet
        exact hB
  case rest =>
  have HB := hcut
  clear hcut S11 hyes hMI hMl hD hF
  go_wp2_with fail
  refine (drawSetLiteral_any ca cl cc _ (hcH.out.grow HB.out) hsm).mono ?_
  rintro e w14 ⟨vk, l, D2, dc2, p, rfl, hv0, hv1, hl0, hl1, hpl, hP, T⟩
  have S14 : Hid (Sp w1 w14 [Own 3 1 (.slice D2 p.length dc2) p.length (p.map (.int .i64))]) := (Sp.of_below HB.out).seq T
  obtain ⟨told, Q, h1, h2, hQI, hQl, hyes⟩ := set_gen vk p l
  obtain ⟨Fp, hrp⟩ := row_of_own S14.out (i := 0) rfl hP
  have q1 := implSetLiteral_any vk p D2 dc2 Fp l w14 hrp
  have q2 := fun W (h : Below w14.heap.size w14 W) => specSetLiteral_any vk p D2 dc2 Fp l W (Ty.row_grow hrp h)
  rw [h1, h2] at q1 q2
  replace q1 := Lib.hid q1
  replace q2 := Lib.hid q2
  replace hQI := Lib.hid hQI
  replace hyes := Lib.hid hyes
  clear h1 h2 hrp T HB hv0 hv1 hP
  have e3 : (told != told) = false := by cases told <;> rfl
  go_wp2_with fail
  refine q1.out.mono ?_
  rintro e w15 ⟨D, dc, rfl, T⟩
  have S15 : Hid (Sp w1 w15 [Own 3 1 (.slice D Q.length dc) Q.length (Q.map (.int .i64)), Own 3 1 (.slice D2 p.length dc2) p.length (p.map (.int .i64))]) := S14.out.seq T
  have q3 := Lib.hid (q2.out w15 T.below)
  clear T q1 q2 S14
  go_wp2_with fail
  refine q3.out.mono ?_
  rintro e w16 ⟨E, ec, rfl, T⟩
  have S16 : Hid (Sp w1 w16 [Own 3 1 (.slice E Q.length ec) Q.length (Q.map (.int .i64)), Own 3 1 (.slice D Q.length dc) Q.length (Q.map (.int .i64)), Own 3 1 (.slice D2 p.length dc2) p.length (p.map (.int .i64))]) := S15.out.seq T
  have hvi := Lib.hid (vInts_same D E dc ec Q w16 (S16.out.ints (i := 1) rfl hQI.out) (S16.out.ints (i := 0) rfl hQI.out) (by omega))
  clear q3 S15 T
  go_wp2_with fail
  refine hvi.out.mono ?_
  rintro e w17 ⟨rfl, hb17⟩
  have S17 : Hid (Sp w1 w17 [Own 3 1 (.slice D Q.length dc) Q.length (Q.map (.int .i64))]) := Lib.hid ((S16.out.grow hb17).pick [1] rfl)
  clear S16 hvi hb17 e3
  go_upto_if 167 with fail
  go_cut [] (fun wx => Hid (Below w1.heap.size w1 wx))
  case first =>
    as_aux_lemma =>
      cases told
      · have hB := Lib.hid S17.out.below
        clear S17
        go_wp2_with fail
        go_meet
        exact hB
      · obtain ⟨c1, c2, c3, c4, c5⟩ := hyes.out rfl
        obtain ⟨Fq, hrq⟩ := row_of_own S17.out (i := 0) rfl hQI.out
        have x1 := Lib.hid (implUnset_any vk Q D dc Fq (absV l) w17 hrq c1 c2)
        have hwl : (withoutB Q (absV l)).length ≤ Q.length := List.length_filter_le _ _
        have hwI : Hid (∀ y ∈ withoutB Q (absV l), I64 y) := fun y hy => hQI.out y (List.mem_filter.1 hy).1
        generalize withoutB Q (absV l) = R at *
        generalize absV l = v at *
        have hwn : IntKind.i64.wrap (-l) = -l := IntWalk.i64_in _ (by omega)
        replace c3 := Lib.hid c3
        replace c4 := Lib.hid c4
        clear hyes hrq c1 c2
        by_cases hneg : l < 0
        · rw [if_pos hneg] at c5
          subst c5
          have dn : decide (l < 0) = true := decide_eq_true hneg
          clear hneg
          go_wp2_with fail
          refine x1.out.mono ?_
          rintro e w18 ⟨G, gc, rfl, T⟩
          have S18 : Hid (Sp w1 w18 [Own 3 1 (.slice G R.length gc) R.length (R.map (.int .i64)), Own 3 1 (.slice D Q.length dc) Q.length (Q.map (.int .i64))]) := S17.out.seq T
          have y1 := Lib.hid (vHas_any R G gc l w18 (S18.out.ints (i := 0) rfl hwI.out) (by omega))
          have y2 := Lib.hid (vHas_any Q D dc l w18 (S18.out.ints (i := 1) rfl hQI.out) (by omega))
          rw [c3.out] at y1
          rw [c4.out] at y2
          clear T S17 x1
          go_wp2_with fail
          refine y1.out.mono ?_
          rintro e w19 ⟨rfl, rfl⟩
          go_wp2_with fail
          refine y2.out.mono ?_
          rintro e w20 ⟨rfl, rfl⟩
          have hB := Lib.hid S18.out.below
          clear S18 y1 y2
          go_wp2_with fail
          go_meet
          exact hB
        · rw [if_neg hneg] at c5
          subst c5
          have dn : decide (v < 0) = false := decide_eq_false hneg
          clear hneg
          go_wp2_with fail
          refine x1.out.mono ?_
          rintro e w18 ⟨G, gc, rfl, T⟩
          have S18 : Hid (Sp w1 w18 [Own 3 1 (.slice G R.length gc) R.length (R.map (.int .i64)), Own 3 1 (.slice D Q.length dc) Q.length (Q.map (.int .i64))]) := S17.out.seq T
          have y1 := Lib.hid (vHas_any R G gc v w18 (S18.out.ints (i := 0) rfl hwI.out) (by omega))
          have y2 := Lib.hid (vHas_any Q D dc v w18 (S18.out.ints (i := 1) rfl hQI.out) (by omega))
          rw [c3.out] at y1
          rw [c4.out] at y2
          clear T S17 x1
          go_wp2_with fail
          refine y1.out.mono ?_
          rintro e w19 ⟨rfl, rfl⟩
          go_wp2_with fail
          refine y2.out.mono ?_
          rintro e w20 ⟨rfl, rfl⟩
          have hB := Lib.hid S18.out.below
          clear S18 y1 y2
          go_wp2_with fail
          go_meet
          exact hB
  case rest =>
  have HB := hcut
  clear hcut S17 hyes hQI
  go_wp2_with fail
  go_ret
  exact ⟨rfl, HB.out⟩
end Go.Proofs.Ytmikconjhmhekaa
