/- The walk of FnExactPolyDegree. -/
import Derived.Test.YtebhkfhdjdgokaaPolG
import Derived.Test.YtebhkfhdjdgokaaOpenA
namespace Go.Proofs.Ytebhkfhdjdgokaa
open Go.RowKit

/-- A term that comes in. -/
theorem openTm : Opens Try.prog 61 tmTy :=
  Opens.flat (Opens.struct Try.underlying61 (by kernel_rfl) (OpensF.cons rfl (by kernel_rfl) (Opens.int Try.underlying3) (OpensF.cons rfl (by kernel_rfl) (Opens.int Try.underlying3) OpensF.nil))) (fun x : Int × Int × Unit => (x.1, x.2.1)) fun w cs x F h => by
    obtain ⟨_, _, _, _, rfl, rfl, ⟨rfl, h1, rfl⟩, _, _, _, _, rfl, rfl, ⟨rfl, h2, rfl⟩, rfl, rfl⟩ := h
    exact ⟨rfl, ⟨h1, h2⟩, rfl⟩

set_option maxRecDepth 100000 in
set_option maxHeartbeats 4000000 in
theorem FnExactPolyDegree_walk (p vars : Int) (v : Value) (xs : List (Int × Int)) (F : List Nat) (w : World) (hx : tmTy.row false w v xs F) :
    Calls Try.prog 3 #[.int .i64 p, .int .i64 vars, v] w fun e w' => e = .returned (.bool true) ∧ Below w.heap.size w w' := by
  obtain ⟨a, c, rfl, hl1, hl2⟩ := Ty.row_len hx
  by_cases hbig : (1048576 : Int) < (xs.length : Int)
  · go_enter Try.func3, Try.ntmps3
    go_wp2_with fail
    refine (szTermS_any _ _ _ _ _ (by decide) (by decide) (by omega)).mono ?_
    rintro e w1 ⟨rfl, rfl⟩
    rw [if_pos hbig]
    go_wp2_with fail
    go_ret
    exact ⟨rfl, bb _⟩
  have hn : xs.length ≤ 1048576 := by omega
  have hn2 : (0 : Int) ≤ 1048576 - xs.length := by omega
  have hxH := Lib.hid hx
  obtain ⟨D, hD⟩ : ∃ D, degB p vars xs = D := ⟨_, rfl⟩
  replace hD := Lib.hid hD
  obtain ⟨D1, D2⟩ := D
  go_enter Try.func3, Try.ntmps3
  go_wp2_with fail
  refine (szTermS_any _ _ _ _ _ (by decide) (by decide) (by omega)).mono ?_
  rintro e w1 ⟨rfl, rfl⟩
  rw [if_neg (by omega)]
  go_wp2_with fail
  refine (toTermS_any _ xs F _ hxH.out (by omega)).mono ?_
  rintro e w2 ⟨v2, F2, rfl, h2, hn2', hF2, hb2⟩
  obtain ⟨a2, c2, rfl, _, _⟩ := Ty.row_len h2
  replace h2 := Lib.hid (Ty.row_down h2)
  clear hn2' hF2
  go_wp2_with fail
  refine (specPolyDegree_any p vars _ xs F2 _ h2.out).mono ?_
  rw [hD.out]
  rintro e w3 ⟨rfl, hb3⟩
  have hB3 := btr hb2 hb3
  clear hb2 hb3 h2
  go_wp2_with fail
  refine (toTermS_any _ xs F _ (Ty.row_grow hxH.out hB3) (by omega)).mono ?_
  rintro e w4 ⟨v4, F4, rfl, h4, hn4', hF4, hb4⟩
  obtain ⟨a4, c4, rfl, _, _⟩ := Ty.row_len h4
  replace h4 := Lib.hid (Ty.row_down h4)
  clear hn4' hF4
  go_wp2_with fail
  refine (implPolyDegree_any p vars _ xs F4 _ h4.out).mono ?_
  rw [hD.out]
  rintro e w5 ⟨rfl, hb5⟩
  have h5 := Lib.hid (Ty.row_grow h4.out hb5)
  have hB5 := btr (btr hB3 hb4) hb5
  clear hb4 hb5 h4 hB3
  go_wp2_with fail
  refine (toTermS_any _ xs F _ (Ty.row_grow hxH.out hB5) (by omega)).mono ?_
  rintro e w6 ⟨v6, F6, rfl, h6, hn6', hF6, hb6⟩
  obtain ⟨a6, c6, rfl, _, _⟩ := Ty.row_len h6
  replace h6 := Lib.hid (Ty.row_down h6)
  have h7 := Lib.hid (Ty.row_grow h5.out hb6)
  have hB6 := btr hB5 hb6
  clear hn6' hF6 hb6 hB5 h5
  go_wp2_with fail
  refine (eqTermS_same _ _ xs F4 F6 _ h7.out h6.out).mono ?_
  rintro e w7 ⟨rfl, hb7⟩
  have hB7 := btr hB6 hb7
  go_wp2_with fail
  go_ret
  exact ⟨rfl, hB7⟩
end Go.Proofs.Ytebhkfhdjdgokaa
