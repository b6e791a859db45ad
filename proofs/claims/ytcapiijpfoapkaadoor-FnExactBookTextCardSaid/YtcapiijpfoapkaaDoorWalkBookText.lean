/- The walk of FnExactBookText. -/
import Derived.Test.YtcapiijpfoapkaaDoorBtD
namespace Go.Proofs.YtcapiijpfoapkaaDoor
open Go.RowKit

set_option maxRecDepth 100000 in
set_option maxHeartbeats 8000000 in
theorem FnExactBookText_walk (v : Value) (xs : List Rec) (F : List Nat) (w : World) (hE : EnvI w) (hx : rcTy.row false w v xs F) :
    Calls Tryd.prog 4 #[v] w fun e w' => e = .returned (.bool true) ∧ Below w.heap.size w w' := by
  obtain ⟨va, vc, rfl, hx1, hx2, _, _⟩ := row_rc hx
  by_cases hbig : (1048576 : Int) < bulkR xs
  · go_enter Tryd.func4, Tryd.ntmps4
    go_wp2_with fail
    refine (szRecordS_any _ xs F _ _ hx (by decide) (by decide)).mono ?_
    rw [szR_no hbig]
    rintro e w1 ⟨rfl, hb1⟩
    go_wp2_with fail
    go_ret
    exact ⟨rfl, hb1⟩
  have hbk : bulkR xs ≤ 1048576 := by omega
  have hxl : xs.length ≤ 1048576 := by unfold bulkR at hbk; omega
  have hz : ¬ (1048576 : Int) - bulkR xs < 0 := by omega
  obtain ⟨ok, hok⟩ : ∃ ok, bookB xs = ok := ⟨_, rfl⟩
  have hspec := Lib.hid (fun v F w (h : rcTy.row false w v xs F) => specBookText_any v xs F w h)
  have himpl := Lib.hid (fun v F w hE (h : rcTy.row false w v xs F) => implBookText_any v xs F w hE h)
  rw [hok] at hspec himpl
  obtain ⟨L, hL⟩ : ∃ L, ms (if ok then textB xs else []) = L := ⟨_, rfl⟩
  rw [hL] at hspec himpl
  replace hx := Lib.hid hx
  replace hE := Lib.hid hE
  clear hok hL
  go_enter Tryd.func4, Tryd.ntmps4
  go_wp2_with fail
  refine (szRecordS_any _ xs F _ _ hx.out (by decide) (by decide)).mono ?_
  rw [szR_yes (by omega)]
  rintro e w1 ⟨rfl, hb1⟩
  have S0 := Lib.hid (Sp.of_below hb1)
  clear hb1
  go_wp2_with fail
  refine (toRecordS_any _ xs F _ (Ty.row_below hx.out S0.out.below (Ty.row_lt hx.out)) (by omega)).mono ?_
  rintro e w1 ⟨v1, F1, rfl, hr1, hn1, hF1, hb1⟩
  obtain ⟨a_r0, c_r0, rfl, _, _⟩ := Ty.row_len hr1
  have S2 := Lib.hid (S0.out.row_new hb1 hr1 hn1 hF1)
  clear S0 hr1 hb1 hn1 hF1
  go_wp2_with fail
  obtain ⟨G3, g3⟩ := S2.out.row_at (i := 0) rfl
  refine (hspec.out _ G3 _ g3).mono ?_
  clear g3
  rintro e w4 ⟨rfl, hb4⟩
  have S5 := Lib.hid (S2.out.grow hb4)
  clear S2 hb4
  go_wp2_with fail
  refine (toRecordS_any _ xs F _ (Ty.row_below hx.out S5.out.below (Ty.row_lt hx.out)) (by omega)).mono ?_
  rintro e w6 ⟨v6, F6, rfl, hr6, hn6, hF6, hb6⟩
  obtain ⟨a_x0, c_x0, rfl, _, _⟩ := Ty.row_len hr6
  have S7 := Lib.hid (S5.out.row_new hb6 hr6 hn6 hF6)
  clear S5 hr6 hb6 hn6 hF6
  go_wp2_with fail
  obtain ⟨G8, g8⟩ := S7.out.row_at (i := 0) rfl
  refine (himpl.out _ G8 _ (hE.out.grow S7.out.below) g8).mono ?_
  clear g8
  rintro e w9 ⟨rfl, hb9⟩
  have S10 := Lib.hid (S7.out.grow hb9)
  clear S7 hb9
  go_wp2_with fail
  refine (toRecordS_any _ xs F _ (Ty.row_below hx.out S10.out.below (Ty.row_lt hx.out)) (by omega)).mono ?_
  rintro e w15 ⟨v15, F15, rfl, hr15, hn15, hF15, hb15⟩
  obtain ⟨a_y0, c_y0, rfl, _, _⟩ := Ty.row_len hr15
  have S16 := Lib.hid (S10.out.row_new hb15 hr15 hn15 hF15)
  clear S10 hr15 hb15 hn15 hF15
  go_wp2_with fail
  obtain ⟨G17, g17⟩ := S16.out.row_at (i := 1) rfl
  obtain ⟨G18, g18⟩ := S16.out.row_at (i := 0) rfl
  refine (eqRecordS_same _ _ xs G17 G18 _ g17 g18).mono ?_
  clear g17 g18
  rintro e w19 ⟨rfl, hb19⟩
  have hB := (S16.out.grow hb19).below
  clear S16 hb19
  go_wp2_with fail
  go_ret
  exact ⟨rfl, hB⟩
end Go.Proofs.YtcapiijpfoapkaaDoor
