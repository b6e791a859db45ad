/- Lemmas and contracts for a law, put together out of several texts: WalkMergeBooks. -/
import Derived.Test.YtahbepajeplcmaaDoorMg7
/- The walk of FnExactMergeBooks. Printed by law_merge.py. -/
namespace Go.Proofs.YtahbepajeplcmaaDoor
open Go.RowKit

theorem mergeTo_all {P : Rec → Prop} : ∀ {ys xs zs : List Rec}, (∀ x ∈ xs, P x) → (∀ y ∈ ys, P y) → mergeTo xs ys = some zs → ∀ z ∈ zs, P z
  | [], _, _, hx, _, h => by cases h; exact hx
  | y :: ys, xs, zs, hx, hy, h => by
    simp only [mergeTo] at h
    split at h
    · exact mergeTo_all (entR_all hx (hy y (by simp))) (fun z hz => hy z (by simp [hz])) h
    · cases h
theorem mergeA_all {P : Rec → Prop} {xs ys : List Rec} (hx : ∀ x ∈ xs, P x) (hy : ∀ y ∈ ys, P y) : ∀ z ∈ (mergeA xs ys).getD [], P z := by
  intro z hz
  unfold mergeA at hz
  split at hz
  · cases h : mergeTo xs ys with
    | none => rw [h] at hz; simp at hz
    | some zs => rw [h] at hz; exact mergeTo_all hx hy h z hz
  · simp at hz
theorem mergeA_len (xs ys : List Rec) : ((mergeA xs ys).getD []).length ≤ 24 := by
  unfold mergeA
  split
  · rename_i hb
    rw [Bool.and_eq_true] at hb
    cases h : mergeTo xs ys with
    | none => simp
    | some zs => exact book_le' (mergeTo_book hb.1 h)
  · simp
/-- A row of its own, and whether there is one. -/
def MrAt (ok : Bool) (L : List Rec) (w : World) (e : Ending) (w' : World) : Prop :=
  ∃ v Fb, e = .returned (.tuple #[v, .bool ok]) ∧ rcTy.row true w' v L Fb ∧ Fb.Nodup ∧ (∀ b ∈ Fb, w.heap.size ≤ b) ∧ Below w.heap.size w w'
theorem mr_at {q : Option (List Rec)} {ok : Bool} {L : List Rec} {w w' : World} {e : Ending} (h1 : q.isSome = ok) (h2 : q.getD [] = L) (hg : ∀ z ∈ L, rcOk z) (h : MrgPost q w e w') : MrAt ok L w e w' := by
  subst h1; subst h2
  obtain ⟨A, c, he, hS⟩ := h
  obtain ⟨F, h3, h4, h5⟩ := hS.recs_row (i := 0) rfl hg
  exact ⟨_, F, he, h3, h4, h5, hS.below⟩
theorem markR_at {v : Value} {xs : List Rec} {F : List Nat} {w : World} {K : Nat} {m : Nat} (hx : rcTy.row true w v xs F) (h0 : 0 < m) (hK : m + 4 * xs.length = K) (h1 : K ≤ 1000000000) :
    Calls Tryd.prog 10 #[v, .int .i64 m] w fun e w' => e = .returned (.int .i64 (K : Int)) ∧ Chg F w w' := by
  have := markRecordS_any v m xs F w hx h0 (by omega)
  rw [hK] at this
  exact this
theorem markRV_at {v : Value} {xs : List Rec} {F : List Nat} {w : World} {M : Nat} (hx : rcTy.row true w v xs F) (hM : 1 + 4 * xs.length = M) (h1 : M ≤ 1000000000) :
    Calls Tryd.prog 10 #[v, .int .i64 1] w (MarkPost rcTy w v (M : Int) (markRc 1 xs.length) F) := by
  have := markRecordS_val v 1 xs F w hx (by decide) (by omega)
  rw [hM] at this
  exact this
theorem heldR_at {v : Value} {n : Nat} {F : List Nat} {w : World} {M : Nat} (hx : rcTy.row false w v (markRc 1 n) F) (hM : 1 + 4 * n = M) (h1 : M ≤ 1000000000) :
    Calls Tryd.prog 11 #[v, .int .i64 1] w fun e w' => e = .returned (.int .i64 (M : Int)) ∧ Below w.heap.size w w' := by
  have := heldRecordS_same v 1 n F w hx (by decide) (by omega)
  rw [hM] at this
  exact this

set_option maxRecDepth 100000 in
set_option maxHeartbeats 8000000 in
theorem FnExactMergeBooks_walk (vx vy : Value) (xs ys : List Rec) (Fx Fy : List Nat) (a : Addr) (w : World) (hE : ErrB a w) (hx : rcTy.row false w vx xs Fx) (hy : rcTy.row false w vy ys Fy) :
    Calls Tryd.prog 3 #[vx, vy] w fun e w' => e = .returned (.bool true) ∧ Below w.heap.size w w' := by
  obtain ⟨va, vc, rfl, hx1, hx2, hgx, _⟩ := row_rc hx
  obtain ⟨ua, uc, rfl, hy1, hy2, hgy, _⟩ := row_rc hy
  by_cases hbig : (1048576 : Int) < bulkR xs
  · go_enter Tryd.func3, Tryd.ntmps3
    go_wp2_with fail
    refine (szRecordS_any _ xs Fx _ _ hx (by decide) (by decide)).mono ?_
    rw [szR_no hbig]
    rintro e w1 ⟨rfl, hb1⟩
    go_wp2_with fail
    go_ret
    exact ⟨rfl, hb1⟩
  have hbk : bulkR xs ≤ 1048576 := by omega
  obtain ⟨n1, hn1⟩ : ∃ n1 : Int, 1048576 - (bulkR xs : Int) = n1 := ⟨_, rfl⟩
  have hn0 : 0 ≤ n1 := by omega
  have hn2 : n1 ≤ 1048576 := by omega
  have hsx := Lib.hid (fun w (h : rcTy.row false w (.slice va xs.length vc) xs Fx) => szRecordS_any _ xs Fx 1048576 w h (by decide) (by decide))
  rw [szR_yes (show (bulkR xs : Int) ≤ 1048576 by omega), hn1] at hsx
  have hnn : ¬ n1 < 0 := by omega
  by_cases hbig2 : n1 < bulkR ys
  · go_enter Tryd.func3, Tryd.ntmps3
    go_wp2_with fail
    refine (hsx.out _ hx).mono ?_
    rintro e w1 ⟨rfl, hb1⟩
    go_wp2_with fail
    refine (szRecordS_any _ ys Fy _ _ (Ty.row_below hy hb1 (Ty.row_lt hy)) hn0 hn2).mono ?_
    rw [szR_no hbig2]
    rintro e w2 ⟨rfl, hb2⟩
    go_wp2_with fail
    go_ret
    exact ⟨rfl, btr hb1 hb2⟩
  have hsy := Lib.hid (fun w (h : rcTy.row false w (.slice ua ys.length uc) ys Fy) => szRecordS_any _ ys Fy n1 w h hn0 hn2)
  rw [szR_yes (show (bulkR ys : Int) ≤ n1 by omega)] at hsy
  obtain ⟨n2, hn3⟩ : ∃ n2 : Int, n1 - (bulkR ys : Int) = n2 := ⟨_, rfl⟩
  rw [hn3] at hsy
  have hnn2 : ¬ n2 < 0 := by omega
  have hxl : xs.length ≤ 1048576 := by unfold bulkR at hbk; omega
  have hyl : ys.length ≤ 1048576 := by
    have : bulkR ys ≤ 1048576 := by omega
    unfold bulkR at this; omega
  have hll := mergeA_len xs ys
  have hgl := mergeA_all hgx hgy
  obtain ⟨ok, hok⟩ : ∃ ok, (mergeA xs ys).isSome = ok := ⟨_, rfl⟩
  obtain ⟨L, hL⟩ : ∃ L, (mergeA xs ys).getD [] = L := ⟨_, rfl⟩
  rw [hL] at hll hgl
  have hspec := Lib.hid (fun v u F G w (h : rcTy.row false w v xs F) (k : rcTy.row false w u ys G) => (specMerge_any v u xs ys F G w h k).mono (fun e w' hp => mr_at hok hL hgl hp))
  have himpl := Lib.hid (fun v u F G w (h : rcTy.row false w v xs F) (k : rcTy.row false w u ys G) (hE : ErrB a w) => (implMerge_any v u xs ys F G a w h k hE).mono (fun e w' hp => mr_at hok hL hgl hp))
  obtain ⟨K, hK⟩ : ∃ K, 1 + 4 * xs.length = K := ⟨_, rfl⟩
  have hK1 : K ≤ 1000000000 := by omega
  obtain ⟨K2, hK2⟩ : ∃ K2, K + 4 * ys.length = K2 := ⟨_, rfl⟩
  have hK3 : K2 ≤ 1000000000 := by omega
  have hKp : 0 < K := by omega
  have hK4 : ¬ (K2 : Int) < 0 := by omega
  obtain ⟨M, hM⟩ : ∃ M, 1 + 4 * L.length = M := ⟨_, rfl⟩
  have hM1 : M ≤ 1000000000 := by omega
  have hM0 : ¬ (M : Int) < 0 := by omega
  replace hK := Lib.hid hK
  replace hK2 := Lib.hid hK2
  replace hM := Lib.hid hM
  replace hx := Lib.hid hx
  replace hy := Lib.hid hy
  replace hE := Lib.hid hE
  clear hok hL hn1 hn3 hbig hbig2 hbk
  go_enter Tryd.func3, Tryd.ntmps3
  go_wp2_with fail
  refine (hsx.out _ hx.out).mono ?_
  rintro e w1 ⟨rfl, hb1⟩
  have S0 := Lib.hid (Sp.of_below hb1)
  clear hb1
  go_wp2_with fail
  refine (hsy.out _ (Ty.row_below hy.out S0.out.below (Ty.row_lt hy.out))).mono ?_
  rintro e w2 ⟨rfl, hb2⟩
  have S1 := Lib.hid (S0.out.grow hb2)
  clear S0 hb2 hsx hsy
  go_wp2_with fail
  refine (toRecordS_any _ xs Fx _ (Ty.row_below hx.out S1.out.below (Ty.row_lt hx.out)) (by omega)).mono ?_
  rintro e w11 ⟨v11, F11, rfl, hr11, hn11, hF11, hb11⟩
  obtain ⟨a_xa, c_xa, rfl, _, _⟩ := Ty.row_len hr11
  have S11 := Lib.hid (S1.out.row_new hb11 hr11 hn11 hF11)
  clear S1 hr11 hb11 hn11 hF11
  go_wp2_with fail
  refine (toRecordS_any _ ys Fy _ (Ty.row_below hy.out S11.out.below (Ty.row_lt hy.out)) (by omega)).mono ?_
  rintro e w12 ⟨v12, F12, rfl, hr12, hn12, hF12, hb12⟩
  obtain ⟨a_ya, c_ya, rfl, _, _⟩ := Ty.row_len hr12
  have S12 := Lib.hid (S11.out.row_new hb12 hr12 hn12 hF12)
  clear S11 hr12 hb12 hn12 hF12
  go_wp2_with fail
  obtain ⟨G13, g13⟩ := S12.out.row_at (i := 1) rfl
  obtain ⟨H13, k13⟩ := S12.out.row_at (i := 0) rfl
  refine (hspec.out _ _ G13 H13 _ g13 k13).mono ?_
  clear g13 k13
  rintro e w13 ⟨v13, F13, rfl, hr13, hn13, hF13, hb13⟩
  obtain ⟨a_r, c_r, rfl, _, _⟩ := Ty.row_len hr13
  have S13 := Lib.hid (S12.out.row_new hb13 hr13 hn13 hF13)
  clear S12 hr13 hb13 hn13 hF13
  go_wp2_with fail
  refine (toRecordS_any _ xs Fx _ (Ty.row_below hx.out S13.out.below (Ty.row_lt hx.out)) (by omega)).mono ?_
  rintro e w14 ⟨v14, F14, rfl, hr14, hn14, hF14, hb14⟩
  obtain ⟨a_x0, c_x0, rfl, _, _⟩ := Ty.row_len hr14
  have S14 := Lib.hid (S13.out.row_new hb14 hr14 hn14 hF14)
  clear S13 hr14 hb14 hn14 hF14
  go_wp2_with fail
  refine (toRecordS_any _ ys Fy _ (Ty.row_below hy.out S14.out.below (Ty.row_lt hy.out)) (by omega)).mono ?_
  rintro e w15 ⟨v15, F15, rfl, hr15, hn15, hF15, hb15⟩
  obtain ⟨a_x1, c_x1, rfl, _, _⟩ := Ty.row_len hr15
  have S15 := Lib.hid (S14.out.row_new hb15 hr15 hn15 hF15)
  clear S14 hr15 hb15 hn15 hF15
  go_wp2_with fail
  obtain ⟨G16, g16⟩ := S15.out.row_at (i := 1) rfl
  obtain ⟨H16, k16⟩ := S15.out.row_at (i := 0) rfl
  refine (himpl.out _ _ G16 H16 _ g16 k16 (hE.out.grow S15.out.below)).mono ?_
  clear g16 k16
  rintro e w16 ⟨v16, F16, rfl, hr16, hn16, hF16, hb16⟩
  obtain ⟨a_g, c_g, rfl, _, _⟩ := Ty.row_len hr16
  have S16 := Lib.hid (S15.out.row_new hb16 hr16 hn16 hF16)
  clear S15 hr16 hb16 hn16 hF16
  go_wp2_with fail
  obtain ⟨G17, g17⟩ := S16.out.row_at (i := 0) rfl
  obtain ⟨H17, k17⟩ := S16.out.row_at (i := 3) rfl
  refine (eqRecordS_same _ _ L G17 H17 _ g17 k17).mono ?_
  clear g17 k17
  rintro e w17 ⟨rfl, hb17⟩
  have S17 := Lib.hid (S16.out.grow hb17)
  clear S16 hb17
  go_wp2_with fail
  refine (toRecordS_any _ xs Fx _ (Ty.row_below hx.out S17.out.below (Ty.row_lt hx.out)) (by omega)).mono ?_
  rintro e w18 ⟨v18, F18, rfl, hr18, hn18, hF18, hb18⟩
  obtain ⟨a_xb, c_xb, rfl, _, _⟩ := Ty.row_len hr18
  have S18 := Lib.hid (S17.out.row_new hb18 hr18 hn18 hF18)
  clear S17 hr18 hb18 hn18 hF18
  go_wp2_with fail
  obtain ⟨G19, g19⟩ := S18.out.row_at (i := 3) rfl
  obtain ⟨H19, k19⟩ := S18.out.row_at (i := 0) rfl
  refine (eqRecordS_same _ _ xs G19 H19 _ g19 k19).mono ?_
  clear g19 k19
  rintro e w19 ⟨rfl, hb19⟩
  have S19 := Lib.hid (S18.out.grow hb19)
  clear S18 hb19
  go_wp2_with fail
  refine (toRecordS_any _ ys Fy _ (Ty.row_below hy.out S19.out.below (Ty.row_lt hy.out)) (by omega)).mono ?_
  rintro e w20 ⟨v20, F20, rfl, hr20, hn20, hF20, hb20⟩
  obtain ⟨a_yb, c_yb, rfl, _, _⟩ := Ty.row_len hr20
  have S20 := Lib.hid (S19.out.row_new hb20 hr20 hn20 hF20)
  clear S19 hr20 hb20 hn20 hF20
  go_wp2_with fail
  obtain ⟨G21, g21⟩ := S20.out.row_at (i := 3) rfl
  obtain ⟨H21, k21⟩ := S20.out.row_at (i := 0) rfl
  refine (eqRecordS_same _ _ ys G21 H21 _ g21 k21).mono ?_
  clear g21 k21
  rintro e w21 ⟨rfl, hb21⟩
  have S21 := Lib.hid (S20.out.grow hb21)
  clear S20 hb21
  go_wp2_with fail
  obtain ⟨F22, hr22, hn22, hall22⟩ := S21.out.spoil (i := 4) rfl
  refine (markR_at hr22 (by decide) hK.out hK1).mono ?_
  rintro e w22 ⟨rfl, hc22⟩
  have S22 := Lib.hid (hall22 _ hc22)
  clear S21 hr22 hn22 hall22 hc22
  go_wp2_with fail
  obtain ⟨F23, hr23, hn23, hall23⟩ := S22.out.spoil (i := 3) rfl
  refine (markR_at hr23 hKp hK2.out hK3).mono ?_
  rintro e w23 ⟨rfl, hc23⟩
  have S23 := Lib.hid (hall23 _ hc23)
  clear S22 hr23 hn23 hall23 hc23
  go_wp2_with fail
  obtain ⟨G24, g24⟩ := S23.out.row_at (i := 2) rfl
  obtain ⟨H24, k24⟩ := S23.out.row_at (i := 5) rfl
  refine (eqRecordS_same _ _ L G24 H24 _ g24 k24).mono ?_
  clear g24 k24
  rintro e w24 ⟨rfl, hb24⟩
  have S24 := Lib.hid (S23.out.grow hb24)
  clear S23 hb24
  go_wp2_with fail
  obtain ⟨F25, hr25, hn25, hall25⟩ := S24.out.mark (i := 2) rfl
  refine (markRV_at hr25 hM.out hM1).mono ?_
  rintro e w25 ⟨rfl, hq25, hc25⟩
  have S25 := Lib.hid (hall25 _ _ hq25 hc25)
  clear S24 hr25 hn25 hall25 hq25 hc25
  go_wp2_with fail
  obtain ⟨G26, g26⟩ := S25.out.row_at (i := 2) rfl
  refine (heldR_at g26 hM.out hM1).mono ?_
  clear g26
  rintro e w26 ⟨rfl, hb26⟩
  have S26 := Lib.hid (S25.out.grow hb26)
  clear S25 hb26
  go_wp2_with fail
  refine (toRecordS_any _ xs Fx _ (Ty.row_below hx.out S26.out.below (Ty.row_lt hx.out)) (by omega)).mono ?_
  rintro e w27 ⟨v27, F27, rfl, hr27, hn27, hF27, hb27⟩
  obtain ⟨a_xc, c_xc, rfl, _, _⟩ := Ty.row_len hr27
  have S27 := Lib.hid (S26.out.row_new hb27 hr27 hn27 hF27)
  clear S26 hr27 hb27 hn27 hF27
  go_wp2_with fail
  refine (toRecordS_any _ ys Fy _ (Ty.row_below hy.out S27.out.below (Ty.row_lt hy.out)) (by omega)).mono ?_
  rintro e w28 ⟨v28, F28, rfl, hr28, hn28, hF28, hb28⟩
  obtain ⟨a_yc, c_yc, rfl, _, _⟩ := Ty.row_len hr28
  have S28 := Lib.hid (S27.out.row_new hb28 hr28 hn28 hF28)
  clear S27 hr28 hb28 hn28 hF28
  go_wp2_with fail
  obtain ⟨G29, g29⟩ := S28.out.row_at (i := 1) rfl
  obtain ⟨H29, k29⟩ := S28.out.row_at (i := 0) rfl
  refine (himpl.out _ _ G29 H29 _ g29 k29 (hE.out.grow S28.out.below)).mono ?_
  clear g29 k29
  rintro e w29 ⟨v29, F29, rfl, hr29, hn29, hF29, hb29⟩
  obtain ⟨a_h, c_h, rfl, _, _⟩ := Ty.row_len hr29
  have S29 := Lib.hid (S28.out.row_new hb29 hr29 hn29 hF29)
  clear S28 hr29 hb29 hn29 hF29
  go_wp2_with fail
  obtain ⟨G30, g30⟩ := S29.out.row_at (i := 0) rfl
  obtain ⟨H30, k30⟩ := S29.out.row_at (i := 8) rfl
  refine (eqRecordS_same _ _ L G30 H30 _ g30 k30).mono ?_
  clear g30 k30
  rintro e w30 ⟨rfl, hb30⟩
  have S30 := Lib.hid (S29.out.grow hb30)
  clear S29 hb30
  go_wp2_with fail
  obtain ⟨G31, g31⟩ := S30.out.row_at (i := 5) rfl
  refine (heldR_at g31 hM.out hM1).mono ?_
  clear g31
  rintro e w31 ⟨rfl, hb31⟩
  have S31 := Lib.hid (S30.out.grow hb31)
  clear S30 hb31
  have hB := S31.out.below
  go_wp2_with fail
  go_ret
  exact ⟨rfl, hB⟩
end Go.Proofs.YtahbepajeplcmaaDoor
