/- Lemmas and contracts for a law, put together out of several texts: WalkPebblingFormulas. -/
import Derived.Test.YtnfjgebfmnpkbaaGreatMg11
import Derived.Test.YtnfjgebfmnpkbaaGreatMg12
import Derived.Test.YtnfjgebfmnpkbaaGreatMg4
import Derived.Test.YtnfjgebfmnpkbaaGreatMg5
import Derived.Test.YtnfjgebfmnpkbaaGreatMg2
import Derived.Deep.DeepCutAuto
import Derived.Deep.CutBlock
/- The walk of FnPebblingFormulas. -/
namespace Go.Proofs.YtnfjgebfmnpkbaaGreat
open Go.RowKit

theorem mustP : MustC := fun zs A cap w hx hz hl => mustClause_any zs A cap w hx hz hl
theorem vBigP_any (ca : Option Addr) (cl cc : Nat) (w : World) : Calls Tryz.prog 4 #[.slice ca cl cc] w fun e w' => e = .returned (.bool (decide ((65536 : Int) < (cl : Int)))) ∧ w' = w := by
  go_enter Tryz.func4, Tryz.ntmps4
  go_wp2_with fail
  go_ret
  exact ⟨rfl, rfl⟩
theorem peb_sizes (D : List (List Int)) : ((pebY D).length ≤ 1000000 ∧ ∀ c ∈ pebY D, c.length ≤ 1000000) ∧ (srcV D).length ≤ 1000 ∧ (snkV D).length ≤ 1000 := by
  cases h : dagB D with
  | false =>
    unfold pebY srcV snkV
    rw [h]
    exact ⟨⟨by simp, by simp⟩, by simp, by simp⟩
  | true =>
    have hg := good_cnf (peb_goodB h)
    have h10 := (dag_parts h).1
    unfold pebY srcV snkV
    rw [h, if_pos rfl, if_pos rfl, if_pos rfl]
    exact ⟨⟨by omega, fun c hc => by have := (hg.2.2.2 c hc).2; omega⟩, Nat.le_trans (nodL_len _ _) (by omega), Nat.le_trans (nodL_len _ _) (by omega)⟩
theorem peb_yes {D : List (List Int)} (h : dagB D = true) : pebV D = D.length ∧ goodB (pebV D) (pebY D) = true ∧ ((srcV D).length == 0) = false ∧ hasI (snkV D) ((D.length : Int) - 1) = true ∧ (List.range (2 ^ (pebV D).toNat)).any (modT (pebY D)) = false ∧ ∀ q : Bool, (q = false → ∃ a, clauseB D.length a = true ∧ (∀ c ∈ pebY D, 0 ≤ valPg c a) ∧ ∀ c ∈ pebY D, unitPg c a = 0) → q = true := by
  obtain ⟨h10, hpre⟩ := dag_parts h
  have e1 : pebV D = D.length := by unfold pebV; rw [h]; rfl
  have e2 : pebY D = pebX D := by unfold pebY; rw [h]; rfl
  have e3 : srcV D = nodL (srcP D) D.length := by unfold srcV; rw [h]; rfl
  have e4 : snkV D = nodL (snkP D) D.length := by unfold snkV; rw [h]; rfl
  refine ⟨e1, by rw [e1, e2]; exact peb_goodB h, ?_, ?_, ?_, fun q hq => ?_⟩
  · have : 0 < (srcV D).length := by
      rw [e3, nodL_pos]
      refine ⟨0, by omega, ?_⟩
      rw [srcP_at (by omega)]
      have := pre_len (hpre 0 (by omega))
      simp; simpa using this
    simp; intro h0; rw [h0] at this; simp at this
  · rw [e4, hasS_iff, show (D.length : Int) - 1 = ((D.length - 1 : Nat) : Int) by omega]
    refine nodL_in (by omega) ?_
    unfold snkP
    rw [Bool.not_eq_true', List.any_eq_false]
    intro l hl hq
    obtain ⟨y, hy, rfl⟩ := List.getElem_of_mem hl
    have := rsg_mem (hpre y hy) _ (hasS_iff.1 hq)
    omega
  · rw [List.any_eq_false]
    intro b _
    rw [e2, peb_no h]; simp
  · cases q with
    | true => rfl
    | false =>
      obtain ⟨a, h1, h2, h3⟩ := hq rfl
      rw [e2] at h2 h3
      exact (peb_stuck h h1 h2 h3).elim
theorem und_len (D : List (List Int)) (x : Int) : (if udB D x then undV D x.toNat else []).length ≤ 1000 := by
  split
  · unfold undV; exact Nat.le_trans (nodL_len _ _) (by omega)
  · simp

set_option maxRecDepth 100000 in
set_option maxHeartbeats 16000000 in
theorem FnPebblingFormulas_walk (ca : Option Addr) (cl cc : Nat) (w : World) (hc : CodeOk w ca cl) :
    Calls Tryz.prog 3 #[.slice ca cl cc] w fun e w' => e = .returned (.bool true) ∧ Below w.heap.size w w' := by
  have hcH := Lib.hid hc
  clear hc
  by_cases hbig : (65536 : Int) < (cl : Int)
  · go_enter Tryz.func3, Tryz.ntmps3
    go_wp2_with fail
    refine (vBigP_any _ _ _ _).mono ?_
    rintro e w1 ⟨rfl, rfl⟩
    rw [decide_eq_true hbig]
    go_wp2_with fail
    go_ret
    exact ⟨rfl, bb _⟩
  have hsm : cl ≤ 65536 := by omega
  have hv := Lib.hid (decide_eq_false hbig)
  clear hbig
  go_enter Tryz.func3, Tryz.ntmps3
  go_wp2_with fail
  refine (vBigP_any _ _ _ _).mono ?_
  rintro e w1 ⟨rfl, rfl⟩
  rw [hv.out]
  clear hv
  go_wp2_with fail
  refine (drawPebbling_any ca cl cc w1 hcH.out hsm).mono ?_
  rintro e w2 ⟨A, c, D, rfl, hst, ⟨hl20, hl4⟩, hb2⟩
  have hX := hst w2 fun _ _ _ => rfl
  have hB2 := Lib.hid hb2
  have hlD : D.length ≤ 1000 := by omega
  have hls : ∀ l ∈ D, l.length ≤ 1000 := fun l hl => by have := hl4 l hl; omega
  have q1 := Lib.hid (fun W (h : Below w2.heap.size w2 W) => implPebbling_any mustP A c D W (hX.grow h) hlD hls)
  have q2 := Lib.hid (fun W (h : Below w2.heap.size w2 W) => specPebbling_any A c D W (hX.grow h) hlD hls)
  have q3 := Lib.hid (fun W (h : Below w2.heap.size w2 W) => implSources_any A c D W (hX.grow h) hlD hls)
  have q4 := Lib.hid (fun W (h : Below w2.heap.size w2 W) => specSources_any A c D W (hX.grow h) hlD hls)
  have q5 := Lib.hid (fun W (h : Below w2.heap.size w2 W) => implSinks_any A c D W (hX.grow h) hlD hls)
  have q6 := Lib.hid (fun W (h : Below w2.heap.size w2 W) => specSinks_any A c D W (hX.grow h) hlD hls)
  have q7 := Lib.hid (fun W (h : Below w2.heap.size w2 W) => implLongest_any A c D W (hX.grow h) hlD hls)
  have q8 := Lib.hid (fun W (h : Below w2.heap.size w2 W) => specLongest_any A c D W (hX.grow h) hlD hls)
  obtain ⟨⟨hs1, hs2⟩, hs3, hs4⟩ := peb_sizes D
  replace hs2 := Lib.hid hs2
  have hyes := Lib.hid (fun h : dagB D = true => peb_yes h)
  have hcn := Lib.hid (hcH.out.grow hb2)
  have hNw : IntKind.i64.wrap ((D.length : Int) - 1) = (D.length : Int) - 1 := IntWalk.i64_in _ (by omega)
  generalize (if dagB D then (lonR D : Int) else 0) = ln at *
  generalize pebV D = va at *
  generalize pebY D = ys at *
  generalize srcV D = so at *
  generalize snkV D = si at *
  generalize dagB D = ok at *
  have S3 := Lib.hid ((Sp.start w2).alloc_box #[.slice A D.length c] 26)
  have c0 := S3.out.cell (i := 0) rfl (o := 0) rfl
  clear hst hl4 hb2 hX hls
  go_wp2_with fail
  refine (q1.out _ S3.out.below).mono ?_
  rintro e w4 ⟨B4, c4, F4, rfl, hr4, hb4⟩
  have S4 := Lib.hid ((S3.out.grow hb4).alloc_box #[.int .i64 va, .slice B4 ys.length c4] 29)
  have hF4 := Lib.hid (Ty.row_below hr4 (bal (bb w4) (.cells #[.int .i64 va, .slice B4 ys.length c4] 29)) (Ty.row_lt hr4))
  have c1 := S4.out.cell (i := 1) rfl (o := 0) rfl
  clear S3 q1 hr4 hb4 c0
  go_wp2_with fail
  refine (q2.out _ S4.out.below).mono ?_
  rintro e w5 ⟨B5, c5, F5, rfl, hr5, hb5⟩
  have S5 := Lib.hid ((S4.out.grow hb5).alloc_box #[.int .i64 va, .slice B5 ys.length c5] 29)
  have hb5' := bal hb5 (.cells #[.int .i64 va, .slice B5 ys.length c5] 29)
  have hF5 := Lib.hid (Ty.row_below hF4.out hb5' (Ty.row_lt hF4.out))
  obtain ⟨_, _, e4, hC4⟩ := cls_row hF5.out
  obtain ⟨_, _, e5, hC5⟩ := cls_row (Ty.row_below hr5 (bal (bb w5) (.cells #[.int .i64 va, .slice B5 ys.length c5] 29)) (Ty.row_lt hr5))
  cases e4
  cases e5
  have hvc := Lib.hid (vCnf_same va B4 B5 c4 c5 ys _ hC4 hC5 hs1 hs2.out)
  have k0 := S5.out.cell (i := 1) rfl (o := 0) rfl
  have k1 := S5.out.cell (i := 1) rfl (o := 1) rfl
  have j0 := S5.out.cell (i := 0) rfl (o := 0) rfl
  have j1 := S5.out.cell (i := 0) rfl (o := 1) rfl
  clear S4 q2 hr5 hb5 hb5' hF4 hC4 hC5 c1
  go_wp2_with fail
  refine hvc.out.mono ?_
  rintro e w6 ⟨rfl, hb6⟩
  have S6 := Lib.hid (S5.out.grow hb6)
  have hF6 := Lib.hid (Ty.row_below hF5.out hb6 (Ty.row_lt hF5.out))
  have c2 := S6.out.cell (i := 2) rfl (o := 0) rfl
  clear S5 hvc hb6 hF5 k0 k1 j0 j1
  go_wp2_with fail
  refine (q3.out _ S6.out.below).mono ?_
  rintro e w7 ⟨D7, d7, rfl, hI7, hb7⟩
  have S7 := Lib.hid (S6.out.grow hb7)
  have hF7 := Lib.hid (Ty.row_below hF6.out hb7 (Ty.row_lt hF6.out))
  have c7 := S7.out.cell (i := 2) rfl (o := 0) rfl
  replace hI7 := Lib.hid hI7
  clear S6 q3 hb7 hF6 c2
  go_wp2_with fail
  refine (q4.out _ S7.out.below).mono ?_
  rintro e w8 ⟨D8, d8, rfl, hI8, hb8⟩
  have S8 := Lib.hid (S7.out.grow hb8)
  have hF8 := Lib.hid (Ty.row_below hF7.out hb8 (Ty.row_lt hF7.out))
  have hvi := Lib.hid (vInts_same D7 D8 d7 d8 so w8 (hI7.out.grow hb8) hI8 (by omega))
  have hJ8 := Lib.hid (hI7.out.grow hb8)
  clear S7 q4 hb8 hF7 c7 hI7 hI8
  go_wp2_with fail
  refine hvi.out.mono ?_
  rintro e w9 ⟨rfl, hb9⟩
  have S9 := Lib.hid (S8.out.grow hb9)
  have hF9 := Lib.hid (Ty.row_below hF8.out hb9 (Ty.row_lt hF8.out))
  have hJ9 := Lib.hid (hJ8.out.grow hb9)
  have c9 := S9.out.cell (i := 2) rfl (o := 0) rfl
  clear S8 hvi hb9 hF8 hJ8
  have hSo9 := hJ9
  clear hJ9
  go_wp2_with fail
  refine (q5.out _ S9.out.below).mono ?_
  rintro e w10 ⟨D10, d10, rfl, hI10, hb10⟩
  have S10 := Lib.hid (S9.out.grow hb10)
  have hF10 := Lib.hid (Ty.row_below hF9.out hb10 (Ty.row_lt hF9.out))
  have hSo10 := Lib.hid (hSo9.out.grow hb10)
  clear hSo9
  have c10 := S10.out.cell (i := 2) rfl (o := 0) rfl
  replace hI10 := Lib.hid hI10
  clear S9 q5 hb10 hF9 c9
  go_wp2_with fail
  refine (q6.out _ S10.out.below).mono ?_
  rintro e w11 ⟨D11, d11, rfl, hI11, hb11⟩
  have S11 := Lib.hid (S10.out.grow hb11)
  have hF11 := Lib.hid (Ty.row_below hF10.out hb11 (Ty.row_lt hF10.out))
  have hSo11 := Lib.hid (hSo10.out.grow hb11)
  clear hSo10
  have hvi := Lib.hid (vInts_same D10 D11 d10 d11 si w11 (hI10.out.grow hb11) hI11 (by omega))
  have hJ11 := Lib.hid (hI10.out.grow hb11)
  clear S10 q6 hb11 hF10 c10 hI10 hI11
  go_wp2_with fail
  refine hvi.out.mono ?_
  rintro e w12 ⟨rfl, hb12⟩
  have S12 := Lib.hid (S11.out.grow hb12)
  have hF12 := Lib.hid (Ty.row_below hF11.out hb12 (Ty.row_lt hF11.out))
  have hJ12 := Lib.hid (hJ11.out.grow hb12)
  have hSo12 := Lib.hid (hSo11.out.grow hb12)
  clear hSo11
  have c12 := S12.out.cell (i := 2) rfl (o := 0) rfl
  clear S11 hvi hb12 hF11 hJ11
  have hSi12 := hJ12
  clear hJ12
  go_wp2_with fail
  refine (q7.out _ S12.out.below).mono ?_
  rintro e w13 ⟨rfl, hb13⟩
  have S13 := Lib.hid (S12.out.grow hb13)
  have c13 := S13.out.cell (i := 2) rfl (o := 0) rfl
  go_wp2_with fail
  refine (q8.out _ S13.out.below).mono ?_
  rintro e w14 ⟨rfl, hb14⟩
  have hbb := btr hb13 hb14
  have S14 := Lib.hid (S13.out.grow hb14)
  have hF14 := Lib.hid (Ty.row_below hF12.out hbb (Ty.row_lt hF12.out))
  have hSo14 := Lib.hid (hSo12.out.grow hbb)
  have hSi14 := Lib.hid (hSi12.out.grow hbb)
  have hdr := Lib.hid (drawNodesUnder_any ca cl cc w14 (hcn.out.grow S14.out.below) hsm)
  clear S12 S13 q7 q8 hb13 hb14 hbb hF12 hSo12 hSi12 c12 c13
  go_wp2_with fail
  refine hdr.out.mono ?_
  rintro e w15 ⟨A2, cX, E, x, rfl, hst, ⟨hl20', hl4⟩, hb15⟩
  have hX := hst w15 fun _ _ _ => rfl
  have hlE : E.length ≤ 1000 := by omega
  have hls : ∀ l ∈ E, l.length ≤ 1000 := fun l hl => by have := hl4 l hl; omega
  have r1 := Lib.hid (fun W (h : Below w15.heap.size w15 W) => implUnder_any A2 cX E x W (hX.grow h) hlE hls)
  have r2 := Lib.hid (fun W (h : Below w15.heap.size w15 W) => specUnder_any A2 cX E x W (hX.grow h) hlE hls)
  have hul := und_len E x
  have S15 := Lib.hid ((S14.out.grow hb15).alloc_box #[.slice A2 E.length cX] 26)
  have hb15' := bal hb15 (.cells #[.slice A2 E.length cX] 26)
  have hK15 := Lib.hid (bal (bb w15) (.cells #[.slice A2 E.length cX] 26))
  have hF15 := Lib.hid (Ty.row_below hF14.out hb15' (Ty.row_lt hF14.out))
  have hSo15 := Lib.hid (hSo14.out.grow hb15')
  have hSi15 := Lib.hid (hSi14.out.grow hb15')
  have c15 := S15.out.cell (i := 0) rfl (o := 0) rfl
  generalize (if udB E x then undV E x.toNat else []) = un at *
  generalize udB E x = uo at *
  clear S14 hdr hst hl4 hb15 hb15' hX hls hF14 hSo14 hSi14 hcn
  go_wp2_with fail
  refine (r1.out _ hK15.out).mono ?_
  rintro e w16 ⟨D16, d16, rfl, hI16, hb16⟩
  have S16 := Lib.hid (S15.out.grow hb16)
  have hK16 := Lib.hid (btr hK15.out hb16)
  have c16 := S16.out.cell (i := 0) rfl (o := 0) rfl
  replace hI16 := Lib.hid hI16
  have hF16 := Lib.hid (Ty.row_below hF15.out hb16 (Ty.row_lt hF15.out))
  have hSo16 := Lib.hid (hSo15.out.grow hb16)
  have hSi16 := Lib.hid (hSi15.out.grow hb16)
  clear S15 r1 hb16 hF15 hSo15 hSi15 c15 hK15
  go_wp2_with fail
  refine (r2.out _ hK16.out).mono ?_
  rintro e w17 ⟨D17, d17, rfl, hI17, hb17⟩
  have S17 := Lib.hid (S16.out.grow hb17)
  have hvi := Lib.hid (vInts_same D16 D17 d16 d17 un w17 (hI16.out.grow hb17) hI17 (by omega))
  have hF17 := Lib.hid (Ty.row_below hF16.out hb17 (Ty.row_lt hF16.out))
  have hSo17 := Lib.hid (hSo16.out.grow hb17)
  have hSi17 := Lib.hid (hSi16.out.grow hb17)
  clear S16 r2 hb17 hF16 hSo16 hSi16 c16 hK16 hI16 hI17
  go_wp2_with fail
  refine hvi.out.mono ?_
  rintro e w18 ⟨rfl, hb18⟩
  have S18 := Lib.hid (S17.out.grow hb18)
  have hF18 := Lib.hid (Ty.row_below hF17.out hb18 (Ty.row_lt hF17.out))
  have hSi18 := Lib.hid (hSi17.out.grow hb18)
  clear S17 hvi hb18 hF17 hSo17 hSi17
  cases ok
  · have hZ := Lib.hid (btr hB2.out S18.out.below)
    clear S18 hF18 hSi18 hyes
    go_wp2_with fail
    go_ret
    exact ⟨rfl, hZ.out⟩
  obtain ⟨y1, y2, y3, y4, y5, y6⟩ := hyes.out (by trivial)
  subst y1
  generalize so.length = sn at *
  have y3' : ¬ sn = 0 := by simpa using y3
  have S19 := Lib.hid (S18.out.own_made 3 1)
  have k0 := S18.out.cell (i := 2) rfl (o := 0) rfl
  have k1 := S18.out.cell (i := 2) rfl (o := 1) rfl
  have hF19 := Ty.row_below hF18.out (bal (bb w18) (.cells #[] 3)) (Ty.row_lt hF18.out)
  have hpr := Lib.hid (implPropagate_any D.length ys y2 B4 (some ⟨w18.heap.size, 0, none⟩) c4 0 (by omega) F4 _ hF19)
  replace hF19 := Lib.hid hF19
  have hSi19 := Lib.hid (hSi18.out.grow (bal (bb w18) (.cells #[] 3)))
  replace y2 := Lib.hid y2
  replace y5 := Lib.hid y5
  replace y6 := Lib.hid y6
  have y4' := Lib.hid y4
  clear S18 hF18 hSi18 hyes y4
  go_wp2_with fail
  refine hpr.out.mono ?_
  rintro e w20 ⟨PD, pn, pc, q, rfl, hb20, hq⟩
  have hqt := y6.out q hq
  subst hqt
  have S20 := Lib.hid (S19.out.grow hb20)
  have hF20 := Lib.hid (Ty.row_below hF19.out hb20 (Ty.row_lt hF19.out))
  have hvh := vHas_any si D10 d10 ((D.length : Int) - 1) w20 (hSi19.out.grow hb20) (by omega)
  rw [y4'.out] at hvh
  replace hvh := Lib.hid hvh
  have c20 := S20.out.cell (i := 4) rfl (o := 0) rfl
  clear S19 hpr hb20 hq hF19 hSi19 k0 k1 y6 y4'
  go_wp2_with fail
  refine hvh.out.mono ?_
  rintro e w21 ⟨rfl, rfl⟩
  have k2 := S20.out.cell (i := 3) rfl (o := 0) rfl
  have k3 := S20.out.cell (i := 3) rfl (o := 1) rfl
  have hsa := isSatisfiable_any D.length (.slice B4 ys.length c4) ys F4 _ hF20.out
  rw [y2.out, y5.out, Bool.true_and] at hsa
  replace hsa := Lib.hid hsa
  clear hvh c20 hF20
  go_wp2_with fail
  refine hsa.out.mono ?_
  rintro e w22 ⟨rfl, hb22⟩
  have hZ := Lib.hid (btr hB2.out (S20.out.grow hb22).below)
  clear S20 hsa hb22 k2 k3
  go_wp2_with fail
  go_ret
  exact ⟨rfl, hZ.out⟩
end Go.Proofs.YtnfjgebfmnpkbaaGreat
