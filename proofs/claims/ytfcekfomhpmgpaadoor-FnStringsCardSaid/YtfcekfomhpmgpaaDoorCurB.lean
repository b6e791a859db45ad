/- Contracts: spoilt texts, records and logs that are drawn. -/
import Derived.Test.YtfcekfomhpmgpaaDoorCur
import Derived.Test.YtfcekfomhpmgpaaDoorLogE
import Derived.Test.YtfcekfomhpmgpaaDoorSepB
namespace Go.Proofs.YtfcekfomhpmgpaaDoor
open Go.RowKit

def SizeLe (n : Nat) (s : ByteArray) : Prop := s.size ≤ n
theorem ext_size (s : ByteArray) (a b : Nat) (h : b ≤ s.size) : (s.extract a b).size = b - a := by
  rw [← bl_length, bl_extract, List.length_take, List.length_drop, bl_length]; omega
theorem CurPost.chg {R : Value → Prop} {A g : Nat} {ca : Option Addr} {cl cc : Nat} {w w1 : World} {e : Ending} {w' : World} (h : CurPost R A g ca cl cc w1 e w') (hc : Chg [g] w w1) : CurPost R A g ca cl cc w e w' := by
  obtain ⟨v, h1, h2, h3, h4⟩ := h
  exact ⟨v, h1, h2, h3, hc.trans h4⟩
theorem CurIs.drewN {A g : Nat} {ca : Option Addr} {cl cc : Nat} {w : World} (h : CurIs A g ca cl cc w) (n : Nat) : CurIs A g ca cl cc (w.drewN n) := h.grow ⟨rfl, rfl, rfl, Nat.le_refl _, fun _ _ => rfl⟩
theorem Chg.drewN {F : List Nat} {a w : World} (h : Chg F a w) (n : Nat) : Chg F a (w.drewN n) := h.then ⟨rfl, rfl, rfl, Nat.le_refl _, fun _ _ => rfl⟩

set_option maxRecDepth 100000 in
set_option maxHeartbeats 4000000 in
theorem cur_spoilt (t u : ByteArray) (A g : Nat) (ca : Option Addr) (cl cc : Nat) (w : World) (h : CurIs A g ca cl cc w) (hA : A ≤ 90000000) (ht : t.size ≤ 1000000) (hu0 : 0 < u.size) (hu : u.size ≤ 1000) :
    Calls Tryd.prog 88 #[.pointer (some ⟨g, 0, none⟩), .string t, .string u] w (CurPost (StrR (SizeLe (t.size + 1))) (A + 6) g ca cl cc w) := by
  by_cases h0 : (bl t).isEmpty = true
  · obtain ⟨Y, hY⟩ : ∃ Y, u.extract 0 1 = Y := ⟨_, rfl⟩
    have hYs : Hid (Y.size ≤ t.size + 1) := by unfold Hid; rw [← hY, ext_size _ _ _ (by omega)]; omega
    have hu1 : (1 : Int) ≤ (u.size : Int) := by omega
    have h0' : bl t = [] := by simpa using h0
    go_enter Tryd.func88, Tryd.ntmps88
    go_wp2_with fail
    go_ret
    exact ⟨_, ⟨Y, hYs.out, rfl⟩, rfl, h.mono (by omega), Chg.refl _ _⟩
  have h0' : (bl t).isEmpty = false := by simpa using h0
  have ht0 : Hid (0 < t.size) := by
    unfold Hid
    rw [← bl_length]
    cases hh : bl t with
    | nil => rw [hh] at h0'; cases h0'
    | cons _ _ => simp
  clear h0
  go_enter Tryd.func88, Tryd.ntmps88
  go_wp2_with fail
  refine (cur_pick_at (lo := 0) (hi := (t.size : Int) - 1) h (by omega) (by omega) (by omega) (by have := ht0.out; omega) (by omega)).mono ?_
  rintro e w1 ⟨_, ⟨x, hx0, hx1, rfl⟩, rfl, hi1, hc1⟩
  obtain ⟨i, rfl⟩ := Int.eq_ofNat_of_zero_le hx0
  have hi : i + 1 ≤ t.size := by omega
  have hi' : (i : Int) + 1 ≤ (t.size : Int) := by omega
  clear hx1 hx0
  go_wp2_with fail
  refine (cur_pick_at (lo := 0) (hi := (u.size : Int) - 1) hi1 (by omega) (by omega) (by omega) (by omega) (by omega)).mono ?_
  rintro e w2 ⟨_, ⟨x, hx0, hx1, rfl⟩, rfl, hi2, hc2⟩
  obtain ⟨j, rfl⟩ := Int.eq_ofNat_of_zero_le hx0
  have hj : j + 1 ≤ u.size := by omega
  have hj' : (j : Int) + 1 ≤ (u.size : Int) := by omega
  clear hx1 hx0
  obtain ⟨X, hX⟩ : ∃ X, u.extract j u.size = X := ⟨_, rfl⟩
  have hXs : (1 : Int) ≤ (X.size : Int) := by rw [← hX, ext_size _ _ _ (by omega)]; omega
  obtain ⟨Y, hY⟩ : ∃ Y, X.extract 0 1 = Y := ⟨_, rfl⟩
  have hYs : Hid (Y.size = 1) := by unfold Hid; rw [← hY, ext_size _ _ _ (by omega)]
  go_wp2_with fail
  refine (cur_pick_at (lo := 0) (hi := 2) hi2 (by omega) (by omega) (by omega) (by omega) (by omega)).mono ?_
  rintro e w3 ⟨_, ⟨z, hz0, hz1, rfl⟩, rfl, hi3, hc3⟩
  have hc := Lib.hid ((hc1.trans hc2).trans hc3)
  replace hi3 := Lib.hid (hi3.mono (show A + 2 + 2 + 2 ≤ A + 6 by omega))
  clear hc1 hc2 hc3 hi1 hi2 h hX hY hXs hj hj'
  obtain ⟨T1, hT1⟩ : ∃ T, t.extract 0 i = T := ⟨_, rfl⟩
  obtain ⟨T2, hT2⟩ : ∃ T, t.extract i t.size = T := ⟨_, rfl⟩
  obtain ⟨T3, hT3⟩ : ∃ T, t.extract (i + 1) t.size = T := ⟨_, rfl⟩
  have s1 : Hid (T1.size = i) := by unfold Hid; rw [← hT1, ext_size _ _ _ (by omega)]; omega
  have s2 : Hid (T2.size = t.size - i) := by unfold Hid; rw [← hT2, ext_size _ _ _ (by omega)]
  have s3 : Hid (T3.size = t.size - (i + 1)) := by unfold Hid; rw [← hT3, ext_size _ _ _ (by omega)]
  obtain ⟨Z, hZ⟩ : ∃ Z, ms (bl T1 ++ bl Y) = Z := ⟨_, rfl⟩
  have sZ : Hid (Z.size = i + 1) := by unfold Hid; rw [← hZ, ms_size, List.length_append, bl_length, bl_length, s1.out, hYs.out]
  have a1 := fun w' => run_add (P := Tryd.prog) w' T1 Y (by rw [s1.out, hYs.out]; omega)
  rw [hZ] at a1
  have a2 := fun w' => run_add (P := Tryd.prog) w' Z T2 (by rw [sZ.out, s2.out]; omega)
  have a3 := fun w' => run_add (P := Tryd.prog) w' Z T3 (by rw [sZ.out, s3.out]; omega)
  have a4 := fun w' => run_add (P := Tryd.prog) w' T1 T3 (by rw [s1.out, s3.out]; omega)
  have r2 : Hid ((ms (bl Z ++ bl T2)).size ≤ t.size + 1) := by unfold Hid; rw [ms_size, List.length_append, bl_length, bl_length, sZ.out, s2.out]; omega
  have r3 : Hid ((ms (bl Z ++ bl T3)).size ≤ t.size + 1) := by unfold Hid; rw [ms_size, List.length_append, bl_length, bl_length, sZ.out, s3.out]; omega
  have r4 : Hid ((ms (bl T1 ++ bl T3)).size ≤ t.size + 1) := by unfold Hid; rw [ms_size, List.length_append, bl_length, bl_length, s1.out, s3.out]; omega
  have hi0 : (i : Int) ≤ (t.size : Int) := by omega
  have hw1 : IntKind.i64.wrap ((i : Int) + 1) = (i : Int) + 1 := IntWalk.i64_in _ (by omega)
  have hn1 : (0 : Int) ≤ (i : Int) + 1 := by omega
  have hn2 : ((i : Int) + 1).toNat = i + 1 := by omega
  clear hZ
  obtain rfl | rfl | rfl : z = 0 ∨ z = 1 ∨ z = 2 := by omega
  · go_wp2_with fail
    go_quiet (fail)
    go_wp2_with fail
    go_ret
    exact ⟨_, ⟨_, r2.out, rfl⟩, rfl, hi3.out.drewN _, hc.out.drewN _⟩
  · go_wp2_with fail
    go_quiet (fail)
    go_wp2_with fail
    go_ret
    exact ⟨_, ⟨_, r3.out, rfl⟩, rfl, hi3.out.drewN _, hc.out.drewN _⟩
  · go_wp2_with fail
    go_quiet (fail)
    go_wp2_with fail
    go_ret
    exact ⟨_, ⟨_, r4.out, rfl⟩, rfl, hi3.out.drewN _, hc.out.drewN _⟩
end Go.Proofs.YtfcekfomhpmgpaaDoor
