/- The walk of FnExactSmallerIn. Printed by law_small.py. -/
import Derived.Test.YtcapiijpfoapkaaBookQ
namespace Go.Proofs.Ytcapiijpfoapkaa
open Go.RowKit

/-- A row of its own, and whether there is one. -/
def SmAt (ok : Bool) (L : List (List UInt8)) (w : World) (e : Ending) (w' : World) : Prop :=
  ∃ v Fb, e = .returned (.tuple #[v, .bool ok]) ∧ stTy.row true w' v L Fb ∧ Fb.Nodup ∧ (∀ b ∈ Fb, w.heap.size ≤ b) ∧ Below w.heap.size w w'
theorem sm_at {ok : Bool} {xs : List Rec} {one two : Int} {L : List (List UInt8)} {w w' : World} {e : Ending} (hL : (if ok then smallS xs one two else []) = L) (h : SmPost ok xs one two w e w') : SmAt ok L w e w' := by
  obtain ⟨v, ys, Fb, he, h1, h2, h3, h4, rfl⟩ := h
  rw [hL] at h1
  exact ⟨v, Fb, he, h1, h2, h3, h4⟩
theorem flat_le {α β : Type} (f : α → List β) (c : Nat) (h : ∀ x, (f x).length ≤ c) : ∀ l : List α, (l.flatMap f).length ≤ l.length * c
  | [] => by simp
  | x :: l => by
    rw [List.flatMap_cons, List.length_append, List.length_cons, Nat.add_mul, Nat.one_mul]
    have := flat_le f c h l
    have := h x
    omega
theorem small_len {xs : List Rec} {one two : Int} {ok : Bool} (h : okSm xs one two = ok) : (if ok then smallS xs one two else []).length ≤ 576 := by
  cases ok
  · simp
  · simp only [if_true]
    unfold okSm at h
    rw [Bool.and_eq_true, Bool.and_eq_true] at h
    have h24 : xs.length ≤ 24 := by
      have := h.1.1
      unfold bookB at this
      rw [Bool.and_eq_true, decide_eq_true_eq] at this
      exact this.2
    have := flat_le (fun r => xs.flatMap fun q => if underB one two r q then [r.name] else []) 24 (fun r => by
      have := flat_le (fun q => if underB one two r q then [r.name] else []) 1 (fun q => by split <;> simp) xs
      omega) xs
    unfold smallS
    omega
theorem markRecordS_at {v : Value} {xs : List Rec} {F : List Nat} {w : World} {K : Nat} (hx : rcTy.row true w v xs F) (hK : 1 + 4 * xs.length = K) (h1 : K ≤ 1000000000) :
    Calls Try.prog 10 #[v, .int .i64 1] w fun e w' => e = .returned (.int .i64 (K : Int)) ∧ Chg F w w' := by
  have := markRecordS_any v 1 xs F w hx (by decide) (by omega)
  rw [hK] at this
  exact this
theorem markStringS_at {v : Value} {xs : List (List UInt8)} {F : List Nat} {w : World} {M : Nat} (hx : stTy.row true w v xs F) (hM : 1 + xs.length = M) (h1 : M ≤ 1000000000) :
    Calls Try.prog 11 #[v, .int .i64 1] w (MarkPost stTy w v (M : Int) (markSt 1 xs.length) F) := by
  have := markStringS_any v 1 xs F w hx (by decide) (by omega)
  rw [hM] at this
  exact this
theorem heldStringS_at {v : Value} {n : Nat} {F : List Nat} {w : World} {M : Nat} (hx : stTy.row false w v (markSt 1 n) F) (hM : 1 + n = M) (h1 : M ≤ 1000000000) :
    Calls Try.prog 12 #[v, .int .i64 1] w fun e w' => e = .returned (.int .i64 (M : Int)) ∧ Below w.heap.size w w' := by
  have := heldStringS_same v 1 n F w hx (by decide) (by omega)
  rw [hM] at this
  exact this

set_option maxRecDepth 100000 in
set_option maxHeartbeats 8000000 in
theorem FnExactSmallerIn_walk (v : Value) (xs : List Rec) (one two : Int) (F : List Nat) (w : World) (hx : rcTy.row false w v xs F) :
    Calls Try.prog 3 #[v, .int .i64 one, .int .i64 two] w fun e w' => e = .returned (.bool true) ∧ Below w.heap.size w w' := by
  obtain ⟨va, vc, rfl, hx1, hx2, _, _⟩ := row_rc hx
  by_cases hbig : (1048576 : Int) < bulkR xs
  · go_enter Try.func3, Try.ntmps3
    go_wp2_with fail
    refine (szRecordS_any _ xs F _ _ hx (by decide) (by decide)).mono ?_
    rw [szR_no hbig]
    rintro e w1 ⟨rfl, hb1⟩
    go_wp2_with fail
    go_ret
    exact ⟨rfl, hb1⟩
  have hbk : bulkR xs ≤ 1048576 := by omega
  have hxl : xs.length ≤ 1048576 := by unfold bulkR at hbk; omega
  have hz : ¬ (1048576 : Int) - bulkR xs < 0 := by omega
  obtain ⟨ok, hok⟩ : ∃ ok, okSm xs one two = ok := ⟨_, rfl⟩
  have hll := small_len hok
  obtain ⟨L, hL⟩ : ∃ L, (if ok then smallS xs one two else []) = L := ⟨_, rfl⟩
  rw [hL] at hll
  obtain ⟨K, hK⟩ : ∃ K, 1 + 4 * xs.length = K := ⟨_, rfl⟩
  have hK1 : K ≤ 1000000000 := by omega
  have hK0 : ¬ (K : Int) < 0 := by omega
  obtain ⟨M, hM⟩ : ∃ M, 1 + L.length = M := ⟨_, rfl⟩
  have hM1 : M ≤ 1000000000 := by omega
  have hM0 : ¬ (M : Int) < 0 := by omega
  have hspec := Lib.hid (fun v F w (h : rcTy.row false w v xs F) => (specSmaller_any v xs one two F w h).mono (fun e w' hp => sm_at (L := L) (by rw [hok]; exact hL) hp))
  have himpl := Lib.hid (fun v F w (h : rcTy.row false w v xs F) => (implSmaller_any v xs one two F w h).mono (fun e w' hp => sm_at (L := L) (by rw [hok]; exact hL) hp))
  rw [hok] at hspec himpl
  replace hK := Lib.hid hK
  replace hM := Lib.hid hM
  replace hx := Lib.hid hx
  clear hok hL
  go_enter Try.func3, Try.ntmps3
  go_wp2_with fail
  refine (szRecordS_any _ xs F _ _ hx.out (by decide) (by decide)).mono ?_
  rw [szR_yes (by omega)]
  rintro e w1 ⟨rfl, hb1⟩
  have S0 := Lib.hid (Sp.of_below hb1)
  clear hb1
  go_wp2_with fail
  refine (toRecordS_any _ xs F _ (Ty.row_below hx.out S0.out.below (Ty.row_lt hx.out)) (by omega)).mono ?_
  rintro e w1 ⟨v1, F1, rfl, hr1, hn1, hF1, hb1⟩
  obtain ⟨a_r0, c_r0, rfl, _, _⟩ := Ty.row_len hr1
  have S2 := S0.out.row_new hb1 hr1 hn1 hF1
  clear S0 hr1 hb1 hn1 hF1
  replace S2 := Lib.hid S2
  go_wp2_with fail
  obtain ⟨G3, g3⟩ := S2.out.row_at (i := 0) rfl
  refine (hspec.out _ G3 _ g3).mono ?_
  clear g3
  rintro e w4 ⟨v4, F4, rfl, hr4, hn4, hF4, hb4⟩
  obtain ⟨a_r, c_r, rfl, _, _⟩ := Ty.row_len hr4
  have S5 := S2.out.row_new hb4 hr4 hn4 hF4
  clear S2 hr4 hb4 hn4 hF4
  replace S5 := Lib.hid S5
  go_wp2_with fail
  refine (toRecordS_any _ xs F _ (Ty.row_below hx.out S5.out.below (Ty.row_lt hx.out)) (by omega)).mono ?_
  rintro e w6 ⟨v6, F6, rfl, hr6, hn6, hF6, hb6⟩
  obtain ⟨a_x0, c_x0, rfl, _, _⟩ := Ty.row_len hr6
  have S7 := S5.out.row_new hb6 hr6 hn6 hF6
  clear S5 hr6 hb6 hn6 hF6
  replace S7 := Lib.hid S7
  go_wp2_with fail
  obtain ⟨G8, g8⟩ := S7.out.row_at (i := 0) rfl
  refine (himpl.out _ G8 _ g8).mono ?_
  clear g8
  rintro e w9 ⟨v9, F9, rfl, hr9, hn9, hF9, hb9⟩
  obtain ⟨a_g, c_g, rfl, _, _⟩ := Ty.row_len hr9
  have S10 := S7.out.row_new hb9 hr9 hn9 hF9
  clear S7 hr9 hb9 hn9 hF9
  replace S10 := Lib.hid S10
  go_wp2_with fail
  obtain ⟨G11, g11⟩ := S10.out.row_at (i := 0) rfl
  obtain ⟨G12, g12⟩ := S10.out.row_at (i := 2) rfl
  refine (eqStringS_same _ _ _ G11 G12 _ g11 g12).mono ?_
  clear g11 g12
  rintro e w13 ⟨rfl, hb13⟩
  have S14 := S10.out.grow hb13
  clear S10 hb13
  replace S14 := Lib.hid S14
  go_wp2_with fail
  refine (toRecordS_any _ xs F _ (Ty.row_below hx.out S14.out.below (Ty.row_lt hx.out)) (by omega)).mono ?_
  rintro e w15 ⟨v15, F15, rfl, hr15, hn15, hF15, hb15⟩
  obtain ⟨a_y0, c_y0, rfl, _, _⟩ := Ty.row_len hr15
  have S16 := S14.out.row_new hb15 hr15 hn15 hF15
  clear S14 hr15 hb15 hn15 hF15
  replace S16 := Lib.hid S16
  go_wp2_with fail
  obtain ⟨G17, g17⟩ := S16.out.row_at (i := 2) rfl
  obtain ⟨G18, g18⟩ := S16.out.row_at (i := 0) rfl
  refine (eqRecordS_same _ _ xs G17 G18 _ g17 g18).mono ?_
  clear g17 g18
  rintro e w19 ⟨rfl, hb19⟩
  have S20 := S16.out.grow hb19
  clear S16 hb19
  replace S20 := Lib.hid S20
  go_wp2_with fail
  obtain ⟨F21, hr21, hn21, hall21⟩ := S20.out.spoil (i := 2) rfl
  refine (markRecordS_at hr21 hK.out hK1).mono ?_
  rintro e w21 ⟨rfl, hc21⟩
  have S22 := hall21 _ hc21
  clear S20 hr21 hn21 hall21 hc21
  replace S22 := Lib.hid S22
  go_wp2_with fail
  obtain ⟨G23, g23⟩ := S22.out.row_at (i := 1) rfl
  obtain ⟨G24, g24⟩ := S22.out.row_at (i := 3) rfl
  refine (eqStringS_same _ _ _ G23 G24 _ g23 g24).mono ?_
  clear g23 g24
  rintro e w25 ⟨rfl, hb25⟩
  have S26 := S22.out.grow hb25
  clear S22 hb25
  replace S26 := Lib.hid S26
  go_wp2_with fail
  obtain ⟨F27, hr27, hn27, hall27⟩ := S26.out.mark (i := 1) rfl
  refine (markStringS_at hr27 hM.out hM1).mono ?_
  rintro e w27 ⟨rfl, hq27, hc27⟩
  have S28 := hall27 _ _ hq27 hc27
  clear S26 hr27 hn27 hall27 hq27 hc27
  replace S28 := Lib.hid S28
  go_wp2_with fail
  obtain ⟨G29, g29⟩ := S28.out.row_at (i := 1) rfl
  refine (heldStringS_at g29 hM.out hM1).mono ?_
  clear g29
  rintro e w30 ⟨rfl, hb30⟩
  have S31 := S28.out.grow hb30
  clear S28 hb30
  replace S31 := Lib.hid S31
  go_wp2_with fail
  refine (toRecordS_any _ xs F _ (Ty.row_below hx.out S31.out.below (Ty.row_lt hx.out)) (by omega)).mono ?_
  rintro e w32 ⟨v32, F32, rfl, hr32, hn32, hF32, hb32⟩
  obtain ⟨a_h0, c_h0, rfl, _, _⟩ := Ty.row_len hr32
  have S33 := S31.out.row_new hb32 hr32 hn32 hF32
  clear S31 hr32 hb32 hn32 hF32
  replace S33 := Lib.hid S33
  go_wp2_with fail
  obtain ⟨G34, g34⟩ := S33.out.row_at (i := 0) rfl
  refine (himpl.out _ G34 _ g34).mono ?_
  clear g34
  rintro e w35 ⟨v35, F35, rfl, hr35, hn35, hF35, hb35⟩
  obtain ⟨a_h, c_h, rfl, _, _⟩ := Ty.row_len hr35
  have S36 := S33.out.row_new hb35 hr35 hn35 hF35
  clear S33 hr35 hb35 hn35 hF35
  replace S36 := Lib.hid S36
  go_wp2_with fail
  obtain ⟨G37, g37⟩ := S36.out.row_at (i := 0) rfl
  obtain ⟨G38, g38⟩ := S36.out.row_at (i := 5) rfl
  refine (eqStringS_same _ _ _ G37 G38 _ g37 g38).mono ?_
  clear g37 g38
  rintro e w39 ⟨rfl, hb39⟩
  have S40 := S36.out.grow hb39
  clear S36 hb39
  replace S40 := Lib.hid S40
  go_wp2_with fail
  obtain ⟨G41, g41⟩ := S40.out.row_at (i := 3) rfl
  refine (heldStringS_at g41 hM.out hM1).mono ?_
  clear g41
  rintro e w42 ⟨rfl, hb42⟩
  have S43 := S40.out.grow hb42
  clear S40 hb42
  replace S43 := Lib.hid S43
  have hB := S43.out.below
  go_wp2_with fail
  go_ret
  exact ⟨rfl, hB⟩
end Go.Proofs.Ytcapiijpfoapkaa
