/- Lemmas and contracts for a law, put together out of several texts: WalkLiterals. -/
import Derived.Test.YtahbepajeplcmaaGreatDoorMg10
import Derived.Deep.DeepCutAuto
/- The walk of FnLiterals. -/
namespace Go.Proofs.YtahbepajeplcmaaGreatDoor
open Go.RowKit

theorem vBigL_any (ca : Option Addr) (cl cc : Nat) (w : World) : Calls Tryz.prog 19 #[.slice ca cl cc] w fun e w' => e = .returned (.bool (decide ((65536 : Int) < (cl : Int)))) ∧ w' = w := by
  go_enter Tryz.func19, Tryz.ntmps19
  go_wp2_with fail
  go_ret
  exact ⟨rfl, rfl⟩
theorem lrow_of_own {w0 w : World} {ps : List Asn} {i : Nat} {v : Value} {d : List Int} (h : Sp w0 w ps) (hi : ps[i]? = some (Own 3 1 v d.length (d.map (.int .i64)))) (hd : ∀ x ∈ d, I64 x) : ∃ F, Ty.int.row false w v d F := by
  obtain ⟨F, hr, -, -⟩ := own_row (h.own hi) hd
  exact ⟨F, Ty.row_down hr⟩
theorem ba_ne (t : ByteArray) : (t != t) = false := by
  show (!(t.data == t.data)) = false
  simp
theorem NumEnv.sp {w0 w : World} {ps : List Asn} (h : NumEnv w0) (hS : Sp w0 w ps) : NumEnv w := h.grow hS.below

set_option maxRecDepth 100000 in
set_option maxHeartbeats 16000000 in
theorem FnLiterals_walk (ca : Option Addr) (cl cc : Nat) (w : World) (hE : NumEnv w) (hc : CodeOk w ca cl) :
    Calls Tryz.prog 4 #[.slice ca cl cc] w fun e w' => e = .returned (.bool true) ∧ Below w.heap.size w w' := by
  have hcH := Lib.hid hc
  replace hE := Lib.hid hE
  clear hc
  by_cases hbig : (65536 : Int) < (cl : Int)
  · go_enter Tryz.func4, Tryz.ntmps4
    go_wp2_with fail
    refine (vBigL_any _ _ _ _).mono ?_
    rintro e w1 ⟨rfl, rfl⟩
    rw [decide_eq_true hbig]
    go_wp2_with fail
    go_ret
    exact ⟨rfl, bb _⟩
  have hsm : cl ≤ 65536 := by omega
  have hv := Lib.hid (decide_eq_false hbig)
  clear hbig
  go_enter Tryz.func4, Tryz.ntmps4
  go_wp2_with fail
  refine (vBigL_any _ _ _ _).mono ?_
  rintro e w1 ⟨rfl, rfl⟩
  rw [hv.out]
  clear hv
  go_wp2_with fail
  refine (drawAddLiteral_any ca cl cc w1 hcH.out hsm).mono ?_
  rintro e w8 ⟨va, l, D1, dc1, d, rfl, hv0, hv1, hl0, hl1, hdl, hD, T⟩
  have S8 : Hid (Sp w1 w8 [Own 3 1 (.slice D1 d.length dc1) d.length (d.map (.int .i64))]) := T
  obtain ⟨fine, M, h1, hMI, hMl, hyes⟩ := add_gen va d l
  obtain ⟨Fd, hrd⟩ := lrow_of_own S8.out (i := 0) rfl hD
  have q1 := implAdd_any va _ d l Fd w8 hrd
  have q2 := fun W (h : Below w8.heap.size w8 W) => specAdd_any va _ d l Fd W (Ty.row_grow hrd h)
  rw [h1] at q1 q2
  replace q1 := Lib.hid q1
  replace q2 := Lib.hid q2
  replace hMI := Lib.hid hMI
  replace hD := Lib.hid hD
  replace hyes := Lib.hid hyes
  clear h1 hrd T hv0 hv1
  have e2 : (fine != fine) = false := by cases fine <;> rfl
  go_wp2_with fail
  refine q1.out.mono ?_
  rintro e w9 hpc
  obtain ⟨D, dc, rfl, T⟩ := pc_out hpc
  have S9 : Hid (Sp w1 w9 [Own 3 1 (.slice D M.length dc) M.length (M.map (.int .i64)), Own 3 1 (.slice D1 d.length dc1) d.length (d.map (.int .i64))]) := S8.out.seq T
  have q3 := Lib.hid (q2.out w9 T.below)
  clear T hpc q1 q2 S8
  go_wp2_with fail
  refine q3.out.mono ?_
  rintro e w10 hia
  obtain ⟨E, ec, rfl, hZ, hb10⟩ := ia_out hia
  have S10 := Lib.hid (S9.out.grow hb10)
  have hvi := Lib.hid (vInts_same D E dc ec M w10 (S10.out.ints (i := 0) rfl hMI.out) hZ (by omega))
  clear q3 S9 hb10 hZ hia
  go_wp2_with fail
  refine hvi.out.mono ?_
  rintro e w11 ⟨rfl, hb11⟩
  have S11 := Lib.hid (S10.out.grow hb11)
  clear S10 hvi hb11 e2
  go_upto_if 72 with fail
  go_cut [] (fun wx => Hid (Below w1.heap.size w1 wx))
  case first =>
    as_aux_lemma =>
      cases fine
      · have hB := Lib.hid S11.out.below
        clear S11
        go_wp2_with fail
        go_meet
        exact hB
      · obtain ⟨c1, c2, c3, c4, c5, c6, c7, c8⟩ := hyes.out rfl
        obtain ⟨Fm, hrm⟩ := lrow_of_own S11.out (i := 0) rfl hMI.out
        obtain ⟨Fd, hrd⟩ := lrow_of_own S11.out (i := 1) rfl hD.out
        have x1 := implRemove_any va _ M (absV l) Fm w11 hrm
        have x2 := fun W (h : Below w11.heap.size w11 W) => implRemove_any va _ d (absV l) Fd W (Ty.row_grow hrd h)
        rw [rem_ok c2 c5, c6] at x1
        rw [rem_ok c1 c5] at x2
        have x3 := fun W (h : Below w11.heap.size w11 W) => implIsClause_at (w := W) (Ty.row_grow hrm h) c2
        have x4 := fun W (h : Below w11.heap.size w11 W) => isPart_any va _ _ d M Fd Fm W (Ty.row_grow hrd h) (Ty.row_grow hrm h) c1 c2
        rw [c4] at x4
        have hwl : (withoutB d (absV l)).length ≤ d.length := List.length_filter_le _ _
        have hwI : Hid (∀ y ∈ withoutB d (absV l), I64 y) := fun y hy => hD.out y (List.mem_filter.1 hy).1
        generalize withoutB d (absV l) = R at *
        generalize absV l = v at *
        have hwn : IntKind.i64.wrap (-l) = -l := IntWalk.i64_in _ (by omega)
        replace c3 := Lib.hid c3
        replace c7 := Lib.hid c7
        replace x1 := Lib.hid x1
        replace x2 := Lib.hid x2
        replace x3 := Lib.hid x3
        replace x4 := Lib.hid x4
        clear hyes hrm hrd c1 c2 c4 c5 c6
        have hneg : (l < 0 ∧ v = -l) ∨ (¬ l < 0 ∧ v = l) := by
          by_cases hn : l < 0
          · rw [if_pos hn] at c8; exact .inl ⟨hn, c8⟩
          · rw [if_neg hn] at c8; exact .inr ⟨hn, c8⟩
        clear c8
        obtain ⟨q, hq, hqd⟩ : ∃ q : Bool, decide (l < 0) = q ∧ (if q then -l else l) = v := by
          rcases hneg with ⟨hn, rfl⟩ | ⟨hn, rfl⟩
          · exact ⟨true, decide_eq_true hn, rfl⟩
          · exact ⟨false, decide_eq_false hn, rfl⟩
        clear hneg
        cases q
        all_goals
          simp only [if_true, Bool.false_eq_true, if_false] at hqd
          subst hqd
          go_wp2_with fail
          refine x1.out.mono ?_
          rintro e w12 hpc
          obtain ⟨G, gc, rfl, T⟩ := pc_out hpc
          have S12 : Hid (Sp w1 w12 [Own 3 1 (.slice G R.length gc) R.length (R.map (.int .i64)), Own 3 1 (.slice D M.length dc) M.length (M.map (.int .i64)), Own 3 1 (.slice D1 d.length dc1) d.length (d.map (.int .i64))]) := S11.out.seq T
          have b12 := Lib.hid T.below
          have y2 := Lib.hid (x2.out w12 b12.out)
          clear S11 x1 x2 T hpc
          go_wp2_with fail
          refine y2.out.mono ?_
          rintro e w13 hpc
          obtain ⟨G2, gc2, rfl, T⟩ := pc_out hpc
          have S13 : Hid (Sp w1 w13 [Own 3 1 (.slice G2 R.length gc2) R.length (R.map (.int .i64)), Own 3 1 (.slice G R.length gc) R.length (R.map (.int .i64)), Own 3 1 (.slice D M.length dc) M.length (M.map (.int .i64)), Own 3 1 (.slice D1 d.length dc1) d.length (d.map (.int .i64))]) := S12.out.seq T
          have b13 := Lib.hid (btr b12.out T.below)
          have y3 := Lib.hid (x3.out w13 b13.out)
          clear S12 y2 b12 T hpc x3
          go_wp2_with fail
          refine y3.out.mono ?_
          rintro e w14 ⟨rfl, hb14⟩
          have S14 := Lib.hid (S13.out.grow hb14)
          have b14 := Lib.hid (btr b13.out hb14)
          have y4 := Lib.hid (vHas_any M D dc l w14 (S14.out.ints (i := 2) rfl hMI.out) (by omega))
          rw [c3.out] at y4
          clear S13 y3 b13 hb14
          go_wp2_with fail
          refine y4.out.mono ?_
          rintro e w15 ⟨rfl, rfl⟩
          have y5 := Lib.hid (vInts_same G G2 gc gc2 R w14 (S14.out.ints (i := 1) rfl hwI.out) (S14.out.ints (i := 0) rfl hwI.out) (by omega))
          clear y4
          go_wp2_with fail
          refine y5.out.mono ?_
          rintro e w16 ⟨rfl, hb16⟩
          have S16 := Lib.hid (S14.out.grow hb16)
          have b16 := Lib.hid (btr b14.out hb16)
          have y6 := Lib.hid (vHas_any R G gc l w16 (S16.out.ints (i := 1) rfl hwI.out) (by omega))
          rw [c7.out] at y6
          have y7 := Lib.hid (x4.out w16 b16.out)
          clear S14 y5 b14 hb16 x4
          go_wp2_with fail
          refine y6.out.mono ?_
          rintro e w17 ⟨rfl, rfl⟩
          clear y6 b16
          go_wp2_with fail
          refine y7.out.mono ?_
          rintro e w18 ⟨rfl, hb18⟩
          have hB := Lib.hid (S16.out.grow hb18).below
          clear S16 y7 hb18
          go_wp2_with fail
          go_meet
          exact hB
  case rest =>
  have HB := hcut
  clear hcut S11 hyes hMI hMl hD
  go_wp2_with fail
  refine (drawRemoveVar_any ca cl cc _ (hcH.out.grow HB.out) hsm).mono ?_
  rintro e w20 ⟨vb, r, D2, dc2, p, rfl, hv0, hv1, hr0, hr1, hpl, hP, T⟩
  have S20 : Hid (Sp w1 w20 [Own 3 1 (.slice D2 p.length dc2) p.length (p.map (.int .i64))]) := (Sp.of_below HB.out).seq T
  obtain ⟨fine2, Q, h1, hQI, hQl, hyes⟩ := rem_gen vb p r
  obtain ⟨Fp, hrp⟩ := lrow_of_own S20.out (i := 0) rfl hP
  have q1 := implRemove_any vb _ p r Fp w20 hrp
  have q2 := fun W (h : Below w20.heap.size w20 W) => specRemove_any vb _ p r Fp W (Ty.row_grow hrp h)
  rw [h1] at q1 q2
  replace q1 := Lib.hid q1
  replace q2 := Lib.hid q2
  replace hQI := Lib.hid hQI
  replace hP := Lib.hid hP
  replace hyes := Lib.hid hyes
  clear h1 hrp T HB hv0 hv1
  have e2 : (fine2 != fine2) = false := by cases fine2 <;> rfl
  go_wp2_with fail
  refine q1.out.mono ?_
  rintro e w21 hpc
  obtain ⟨D, dc, rfl, T⟩ := pc_out hpc
  have S21 : Hid (Sp w1 w21 [Own 3 1 (.slice D Q.length dc) Q.length (Q.map (.int .i64)), Own 3 1 (.slice D2 p.length dc2) p.length (p.map (.int .i64))]) := S20.out.seq T
  have q3 := Lib.hid (q2.out w21 T.below)
  clear T hpc q1 q2 S20
  go_wp2_with fail
  refine q3.out.mono ?_
  rintro e w22 hia
  obtain ⟨E, ec, rfl, hZ, hb22⟩ := ia_out hia
  have S22 := Lib.hid (S21.out.grow hb22)
  have hvi := Lib.hid (vInts_same D E dc ec Q w22 (S22.out.ints (i := 0) rfl hQI.out) hZ (by omega))
  clear q3 S21 hb22 hZ hia
  go_wp2_with fail
  refine hvi.out.mono ?_
  rintro e w23 ⟨rfl, hb23⟩
  have S23 := Lib.hid (S22.out.grow hb23)
  clear S22 hvi hb23 e2
  go_upto_if 163 with fail
  go_cut [] (fun wx => Hid (Below w1.heap.size w1 wx))
  case first =>
    as_aux_lemma =>
      cases fine2
      · have hB := Lib.hid S23.out.below
        clear S23
        go_wp2_with fail
        go_meet
        exact hB
      · have hyq := Lib.hid (hyes.out rfl)
        clear hyes
        have hB := Lib.hid S23.out.below
        have hQ := Lib.hid (S23.out.ints (i := 0) rfl hQI.out)
        have hX := Lib.hid (S23.out.ints (i := 1) rfl hP.out)
        have hwn : IntKind.i64.wrap (-r) = -r := IntWalk.i64_in _ (by omega)
        clear S23 hP hQI
        go_wp2_with fail
        go_loopw [24] (fun i wr => ∃ k : Nat, k ≤ p.length ∧ i = .int .i64 k ∧ w23 = wr) (fun i _ => p.length - (intOf i).toNat)
        case atStart => exact ⟨0, Nat.zero_le _, rfl, rfl⟩
        case round =>
          obtain ⟨k, hk, rfl, rfl⟩ := hrel
          by_cases hlt : k < p.length
          · have hx := hyq.out _ (List.getElem_mem hlt)
            obtain ⟨b, off, rfl, m0⟩ := hX.out.at_ k hlt
            generalize p[k] = x at *
            rcases hx with hx | ⟨hx, hy⟩ | ⟨hx, hy, hz⟩
            · have e1 : (x != r) = false := by simp [bne, hx]
              go_wp2_with fail
              go_roundw
              case rel => exact ⟨k + 1, by omega, by go_num, by trivial⟩
              case measure => simp [intOf]; omega
            · have e1 : (x != r) = true := by simp [bne, hx]
              have e2 : (x != -r) = false := by simp [bne, hy]
              go_wp2_with fail
              go_roundw
              case rel => exact ⟨k + 1, by omega, by go_num, by trivial⟩
              case measure => simp [intOf]; omega
            · have e1 : (x != r) = true := by simp [bne, hx]
              have e2 : (x != -r) = true := by simp [bne, hy]
              have hh := Lib.hid (vHas_any Q D dc x w23 hQ.out (by omega))
              rw [hz] at hh
              go_wp2_with fail
              refine hh.out.mono ?_
              rintro e w24 ⟨rfl, rfl⟩
              go_wp2_with fail
              go_roundw
              case rel => exact ⟨k + 1, by omega, by go_num, by trivial⟩
              case measure => simp [intOf]; omega
          · obtain rfl : k = p.length := by omega
            go_wp2_with fail
            go_meet
            exact hB
  case rest =>
  have HB := hcut
  clear hcut S23 hyes hQI hQl hP
  go_wp2_with fail
  refine (drawParseClause_any ca cl cc _ (hcH.out.grow HB.out) hsm).mono ?_
  rintro e w30 ⟨vm, t, rfl, hv0, hv1, hts, hb30⟩
  have HB30 := Lib.hid (btr HB.out hb30)
  obtain ⟨told, L, h1, hLI, hLl, hyes⟩ := par_gen vm (bl t)
  have q1 := implParseClause_any vm t w30 (hE.out.grow HB30.out) (by omega)
  have q2 := fun W => specParseClause_any vm t W (by omega)
  rw [h1] at q1 q2
  replace q1 := Lib.hid q1
  replace q2 := Lib.hid q2
  replace hLI := Lib.hid hLI
  replace hyes := Lib.hid hyes
  clear h1 HB hb30 hv0 hv1
  have e3 : (told != told) = false := by cases told <;> rfl
  go_wp2_with fail
  refine q1.out.mono ?_
  rintro e w31 hpc
  obtain ⟨D, dc, rfl, T⟩ := pc_out hpc
  have S31 : Hid (Sp w1 w31 [Own 3 1 (.slice D L.length dc) L.length (L.map (.int .i64))]) := (Sp.of_below HB30.out).seq T
  have q3 := Lib.hid (q2.out w31)
  clear T hpc q1 q2 HB30
  go_wp2_with fail
  refine q3.out.mono ?_
  rintro e w32 hpc
  obtain ⟨E, ec, rfl, T⟩ := pc_out hpc
  have S32 : Hid (Sp w1 w32 [Own 3 1 (.slice E L.length ec) L.length (L.map (.int .i64)), Own 3 1 (.slice D L.length dc) L.length (L.map (.int .i64))]) := S31.out.seq T
  have hvi := Lib.hid (vInts_same D E dc ec L w32 (S32.out.ints (i := 1) rfl hLI.out) (S32.out.ints (i := 0) rfl hLI.out) (by omega))
  clear q3 S31 T hpc
  go_wp2_with fail
  refine hvi.out.mono ?_
  rintro e w33 ⟨rfl, hb33⟩
  have S33 : Hid (Sp w1 w33 [Own 3 1 (.slice D L.length dc) L.length (L.map (.int .i64))]) := Lib.hid ((S32.out.grow hb33).pick [1] rfl)
  clear S32 hvi hb33 e3
  go_upto_if 220 with fail
  go_cut [] (fun wx => Hid (Below w1.heap.size w1 wx))
  case first =>
    as_aux_lemma =>
      cases told
      · have hB := Lib.hid S33.out.below
        clear S33
        go_wp2_with fail
        go_meet
        exact hB
      · obtain ⟨c1, c2⟩ := hyes.out rfl
        obtain ⟨FL, hrL⟩ := lrow_of_own S33.out (i := 0) rfl hLI.out
        have y1 := implClauseText_any vm _ L FL w33 ((hE.out.sp S33.out).env) hrL
        rw [c1, c2, ms_bl] at y1
        replace y1 := Lib.hid y1
        have e1 := ba_ne t
        clear hyes hrL c1 c2
        go_wp2_with fail
        refine y1.out.mono ?_
        rintro e w34 ⟨rfl, hb34⟩
        have hB := Lib.hid (S33.out.grow hb34).below
        clear S33 y1 hb34
        go_wp2_with fail
        go_meet
        exact hB
  case rest =>
  have HB := hcut
  clear hcut S33 hyes hLI hLl hts
  go_wp2_with fail
  refine (drawClauseText_any ca cl cc _ (hcH.out.grow HB.out) hsm).mono ?_
  rintro e w40 ⟨vk, D3, dc3, q, rfl, hv0, hv1, hql, hQ, T⟩
  have S40 : Hid (Sp w1 w40 [Own 3 1 (.slice D3 q.length dc3) q.length (q.map (.int .i64))]) := (Sp.of_below HB.out).seq T
  obtain ⟨Fq, hrq⟩ := lrow_of_own S40.out (i := 0) rfl hQ
  have q1 := implClauseText_any vk _ q Fq w40 ((hE.out.sp S40.out).env) hrq
  have q2 := fun W (h : Below w40.heap.size w40 W) => specClauseText_any vk _ q Fq W (Ty.row_grow hrq h)
  have hsz := Lib.hid (fun h => ct_size (vars := vk) (c := q) h)
  have hpr := Lib.hid (fun h => ct_par (vars := vk) (c := q) h)
  generalize ms (ctA vk q) = s at *
  obtain ⟨known, hkn⟩ : ∃ b, clauseB vk q = b := ⟨_, rfl⟩
  rw [hkn] at q1 q2 hsz hpr
  replace q1 := Lib.hid q1
  replace q2 := Lib.hid q2
  replace hQ := Lib.hid hQ
  clear hkn hrq T HB hv0 hv1
  have e4 := ba_ne s
  have e5 : (known != known) = false := by cases known <;> rfl
  go_wp2_with fail
  refine q1.out.mono ?_
  rintro e w41 ⟨rfl, hb41⟩
  have S41 := Lib.hid (S40.out.grow hb41)
  have q3 := Lib.hid (q2.out w41 hb41)
  clear S40 q1 q2 hb41
  go_wp2_with fail
  refine q3.out.mono ?_
  rintro e w42 ⟨rfl, hb42⟩
  have S42 := Lib.hid (S41.out.grow hb42)
  clear S41 q3 hb42
  cases known
  · have hB := Lib.hid S42.out.below
    clear S42
    go_wp2_with fail
    go_ret
    exact ⟨rfl, hB.out⟩
  · have y1 := implParseClause_any vk s w42 (hE.out.sp S42.out) (hsz.out rfl)
    rw [hpr.out rfl] at y1
    replace y1 := Lib.hid y1
    clear hsz hpr
    go_wp2_with fail
    refine y1.out.mono ?_
    rintro e w43 hpc
    obtain ⟨E, ec, rfl, T⟩ := pc_out hpc
    have S43 : Hid (Sp w1 w43 [Own 3 1 (.slice E q.length ec) q.length (q.map (.int .i64)), Own 3 1 (.slice D3 q.length dc3) q.length (q.map (.int .i64))]) := S42.out.seq T
    have y2 := Lib.hid (vInts_same E D3 ec dc3 q w43 (S43.out.ints (i := 0) rfl hQ.out) (S43.out.ints (i := 1) rfl hQ.out) (by omega))
    clear y1 T hpc S42
    go_wp2_with fail
    refine y2.out.mono ?_
    rintro e w44 ⟨rfl, hb44⟩
    have hB := Lib.hid (S43.out.grow hb44).below
    clear S43 y2 hb44
    go_wp2_with fail
    go_ret
    exact ⟨rfl, hB.out⟩
end Go.Proofs.YtahbepajeplcmaaGreatDoor
