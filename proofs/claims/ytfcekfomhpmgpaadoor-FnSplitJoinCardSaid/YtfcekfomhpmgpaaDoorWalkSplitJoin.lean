/- The walk of FnSplitJoin. -/
import Derived.Test.YtfcekfomhpmgpaaDoorSpD
import Derived.Test.YtfcekfomhpmgpaaDoorWalkLogLines
namespace Go.Proofs.YtfcekfomhpmgpaaDoor
open Go.RowKit

set_option maxRecDepth 100000 in
set_option maxHeartbeats 8000000 in
theorem FnSplitJoin_walk (ca : Option Addr) (cl cc : Nat) (w : World) (hE : MaxOk w) (hc : CodeOk w ca cl) :
    Calls Tryd.prog 14 #[.slice ca cl cc] w fun e w' => e = .returned (.bool true) ∧ Below w.heap.size w w' := by
  have hEH := Lib.hid hE
  have hcH := Lib.hid hc
  clear hE hc
  by_cases hbig : (65536 : Int) < (cl : Int)
  · go_enter Tryd.func14, Tryd.ntmps14
    go_wp2_with fail
    refine (vBig_any _ _ _ _).mono ?_
    rintro e w1 ⟨rfl, rfl⟩
    rw [decide_eq_true hbig]
    go_wp2_with fail
    go_ret
    exact ⟨rfl, bb _⟩
  have hsm : cl ≤ 65536 := by omega
  have hv := Lib.hid (decide_eq_false hbig)
  clear hbig
  go_enter Tryd.func14, Tryd.ntmps14
  go_wp2_with fail
  refine (vBig_any _ _ _ _).mono ?_
  rintro e w1 ⟨rfl, rfl⟩
  rw [hv.out]
  go_wp2_with fail
  refine (drawSplit_any ca cl cc w1 hcH.out hsm).mono ?_
  rintro e w2 ⟨s, t, hs, ht, rfl, hb2⟩
  by_cases ht1 : t.size = 1
  · obtain ⟨c, rfl⟩ := Lib.one_byte t ht1
    clear ht1
    go_wp2_with fail
    refine (implSplit_yes s c _ (hEH.out.grow hb2) (by omega)).mono ?_
    rintro e w3 ⟨A3, xs, rfl, hxs, hA3, hb3⟩
    have hB3 : Below w1.heap.size w1 w3 := btr hb2 hb3
    have hjb : Hid (joinB (bl ⟨#[c]⟩) (xs.map bl) = (bl s, true)) := by unfold Hid; rw [hxs]; exact join_back (by rw [bl_length]; omega)
    have hxl : xs.length ≤ 11 := by
      have := congrArg List.length hxs
      rw [List.length_map] at this
      have h2 := splitP_len c.toNat (bl s)
      rw [bl_length] at h2; omega
    have hxz : Hid (∀ x ∈ xs, x.size ≤ 1000000) := by
      intro x hx
      have h1 := join_split c (bl s)
      rw [← hxs] at h1
      obtain ⟨u, v, rfl⟩ := List.append_of_mem hx
      have h2 := congrArg List.length h1
      have h3 := join_len (xs := (u ++ x :: v).map bl) (by simp) c
      have h4 : x.size ≤ Lib.lens ((u ++ x :: v).map bl) := by simp [Lib.lens, bl_length]; omega
      rw [bl_length] at h2
      rw [List.length_map] at h3
      omega
    replace hA3 := Lib.hid hA3
    clear hb2 hb3 hxs
    go_wp2_with fail
    refine (drawJoin_any ca cl cc _ (hcH.out.grow hB3) hsm).mono ?_
    rintro e w4 ⟨A4, C4, ys, m, hyl, hyc, hyz, hm, rfl, hA4, hb4⟩
    have hA3a := Lib.hid (hA3.out.grow hb4)
    clear hA3
    have hyz' : Hid (∀ x ∈ ys, x.size ≤ 1000000) := fun x hx => Nat.le_trans (hyz x hx) (by decide)
    replace hA4 := Lib.hid hA4
    obtain ⟨J, hJ⟩ : ∃ J, joinB (bl m) (ys.map bl) = J := ⟨_, rfl⟩
    replace hJ := Lib.hid hJ
    clear hyz
    go_wp2_with fail
    refine (implJoin_any A4 C4 ys m _ hA4.out (by omega) hyc hyz'.out (by omega)).mono ?_
    rw [hJ.out]
    rintro e w5 ⟨rfl, hb5⟩
    have hA4' := Lib.hid (hA4.out.grow hb5)
    have hA3b := Lib.hid (hA3a.out.grow hb5)
    clear hA3a
    clear hA4
    go_wp2_with fail
    refine (specJoin_any A4 C4 ys m _ hA4'.out (by omega) hyc hyz'.out (by omega)).mono ?_
    rw [hJ.out]
    rintro e w6 ⟨rfl, hb6⟩
    have hA3c := Lib.hid (hA3b.out.grow hb6)
    clear hA3b
    have hB6 : Below w1.heap.size w1 w6 := btr (btr (btr hB3 hb4) hb5) hb6
    clear hA4' hb4 hb5 hb6 hB3 hJ
    obtain ⟨J1, J2⟩ := J
    go_wp2_with fail
    refine (drawLess_any ca cl cc _ (hcH.out.grow hB6) hsm).mono ?_
    rintro e w7 ⟨x, y, hx, hy, rfl, hb7⟩
    have hA3d := Lib.hid (hA3c.out.grow hb7)
    clear hA3c
    have hB7 : Below w1.heap.size w1 w7 := btr hB6 hb7
    clear hB6 hb7
    obtain ⟨q, hq⟩ : ∃ q, Op.bytesLess (bl x) (bl y) = q := ⟨_, rfl⟩
    obtain ⟨q', hq'⟩ : ∃ q', Op.bytesLess (bl y) (bl x) = q' := ⟨_, rfl⟩
    have hqq : q = true → q' = false := fun h => hq' ▸ less_asymm (hq ▸ h)
    have hL1 := Lib.hid fun w => hq ▸ implLess_any x y w
    have hL2 := Lib.hid fun w => hq ▸ specLess_any x y w
    have hL3 := Lib.hid fun w => hq' ▸ implLess_any y x w
    clear hq hq'
    cases q
    · clear hqq
      go_wp2_with fail
      refine (hL1.out _).mono ?_
      rintro e w8 ⟨rfl, rfl⟩
      go_wp2_with fail
      refine (hL2.out _).mono ?_
      rintro e w8 ⟨rfl, rfl⟩
      go_wp2_with fail
      refine (hL1.out _).mono ?_
      rintro e w8 ⟨rfl, rfl⟩
      go_wp2_with fail
      refine (implJoin_any A3 xs.length xs ⟨#[c]⟩ _ hA3d.out (by omega) (Nat.le_refl _) hxz.out (show (1 : Nat) ≤ 1000000 by decide)).mono ?_
      rw [hjb.out, ms_bl]
      rintro e w9 ⟨rfl, hb9⟩
      have hB9 : Below w1.heap.size w1 w9 := btr hB7 hb9
      go_wp2_with fail
      go_ret
      exact ⟨rfl, hB9⟩
    · obtain rfl := hqq rfl
      clear hqq
      go_wp2_with fail
      refine (hL1.out _).mono ?_
      rintro e w8 ⟨rfl, rfl⟩
      go_wp2_with fail
      refine (hL2.out _).mono ?_
      rintro e w8 ⟨rfl, rfl⟩
      go_wp2_with fail
      refine (hL1.out _).mono ?_
      rintro e w8 ⟨rfl, rfl⟩
      go_wp2_with fail
      refine (hL3.out _).mono ?_
      rintro e w8 ⟨rfl, rfl⟩
      go_wp2_with fail
      refine (implJoin_any A3 xs.length xs ⟨#[c]⟩ _ hA3d.out (by omega) (Nat.le_refl _) hxz.out (show (1 : Nat) ≤ 1000000 by decide)).mono ?_
      rw [hjb.out, ms_bl]
      rintro e w9 ⟨rfl, hb9⟩
      have hB9 : Below w1.heap.size w1 w9 := btr hB7 hb9
      go_wp2_with fail
      go_ret
      exact ⟨rfl, hB9⟩
  · have ht1' : ((t.size : Int) != 1) = true := by rw [bne_iff_ne]; omega
    go_wp2_with fail
    refine (implSplit_no s t _ (by omega) (by omega) (by omega)).mono ?_
    rintro e w3 ⟨rfl, rfl⟩
    have hB3 := hb2
    clear hb2 ht1
    go_wp2_with fail
    refine (drawJoin_any ca cl cc _ (hcH.out.grow hB3) hsm).mono ?_
    rintro e w4 ⟨A4, C4, ys, m, hyl, hyc, hyz, hm, rfl, hA4, hb4⟩
    have hyz' : Hid (∀ x ∈ ys, x.size ≤ 1000000) := fun x hx => Nat.le_trans (hyz x hx) (by decide)
    replace hA4 := Lib.hid hA4
    obtain ⟨J, hJ⟩ : ∃ J, joinB (bl m) (ys.map bl) = J := ⟨_, rfl⟩
    replace hJ := Lib.hid hJ
    clear hyz
    go_wp2_with fail
    refine (implJoin_any A4 C4 ys m _ hA4.out (by omega) hyc hyz'.out (by omega)).mono ?_
    rw [hJ.out]
    rintro e w5 ⟨rfl, hb5⟩
    have hA4' := Lib.hid (hA4.out.grow hb5)
    clear hA4
    go_wp2_with fail
    refine (specJoin_any A4 C4 ys m _ hA4'.out (by omega) hyc hyz'.out (by omega)).mono ?_
    rw [hJ.out]
    rintro e w6 ⟨rfl, hb6⟩
    have hB6 : Below w1.heap.size w1 w6 := btr (btr (btr hB3 hb4) hb5) hb6
    clear hA4' hb4 hb5 hb6 hB3 hJ
    obtain ⟨J1, J2⟩ := J
    go_wp2_with fail
    refine (drawLess_any ca cl cc _ (hcH.out.grow hB6) hsm).mono ?_
    rintro e w7 ⟨x, y, hx, hy, rfl, hb7⟩
    have hB7 : Below w1.heap.size w1 w7 := btr hB6 hb7
    clear hB6 hb7
    obtain ⟨q, hq⟩ : ∃ q, Op.bytesLess (bl x) (bl y) = q := ⟨_, rfl⟩
    obtain ⟨q', hq'⟩ : ∃ q', Op.bytesLess (bl y) (bl x) = q' := ⟨_, rfl⟩
    have hqq : q = true → q' = false := fun h => hq' ▸ less_asymm (hq ▸ h)
    have hL1 := Lib.hid fun w => hq ▸ implLess_any x y w
    have hL2 := Lib.hid fun w => hq ▸ specLess_any x y w
    have hL3 := Lib.hid fun w => hq' ▸ implLess_any y x w
    clear hq hq'
    cases q
    · clear hqq
      go_wp2_with fail
      refine (hL1.out _).mono ?_
      rintro e w8 ⟨rfl, rfl⟩
      go_wp2_with fail
      refine (hL2.out _).mono ?_
      rintro e w8 ⟨rfl, rfl⟩
      go_wp2_with fail
      refine (hL1.out _).mono ?_
      rintro e w8 ⟨rfl, rfl⟩
      go_wp2_with fail
      go_ret
      exact ⟨rfl, hB7⟩
    · obtain rfl := hqq rfl
      clear hqq
      go_wp2_with fail
      refine (hL1.out _).mono ?_
      rintro e w8 ⟨rfl, rfl⟩
      go_wp2_with fail
      refine (hL2.out _).mono ?_
      rintro e w8 ⟨rfl, rfl⟩
      go_wp2_with fail
      refine (hL1.out _).mono ?_
      rintro e w8 ⟨rfl, rfl⟩
      go_wp2_with fail
      refine (hL3.out _).mono ?_
      rintro e w8 ⟨rfl, rfl⟩
      go_wp2_with fail
      go_ret
      exact ⟨rfl, hB7⟩
end Go.Proofs.YtfcekfomhpmgpaaDoor
