/- Contracts: names, and what is before what. -/
import Derived.Test.YtcapiijpfoapkaaDoorBookC
import Derived.Test.YtcapiijpfoapkaaDoorShelf
namespace Go.Proofs.YtcapiijpfoapkaaDoor
open Go.RowKit

theorem name_step {l : List UInt8} {k : Nat} (hk : k < l.length) : (l.take (k + 1)).all nameC = ((l.take k).all nameC && nameC l[k]) := by
  rw [List.take_succ_eq_append_getElem hk, List.all_append]; simp
theorem name_no {l : List UInt8} {k : Nat} (hk : k < l.length) (h : nameC l[k] = false) : l.all nameC = false := by
  rw [List.all_eq_false]; exact ⟨_, List.getElem_mem hk, by simpa using h⟩
theorem nameC_lo {c : UInt8} (h : (c.toNat : Int) < 48) : nameC c = false := by simp [nameC, inB]; omega
theorem nameC_mid {c : UInt8} (h1 : (57 : Int) < c.toNat) (h2 : (c.toNat : Int) < 97) : nameC c = false := by simp [nameC, inB]; omega
theorem nameC_hi {c : UInt8} (h : (122 : Int) < c.toNat) : nameC c = false := by simp [nameC, inB]; omega
theorem nameC_dig {c : UInt8} (h1 : ¬ (c.toNat : Int) < 48) (h2 : ¬ (57 : Int) < c.toNat) : nameC c = true := by simp [nameC, inB]; omega
theorem nameC_let {c : UInt8} (h1 : ¬ (c.toNat : Int) < 97) (h2 : ¬ (122 : Int) < c.toNat) : nameC c = true := by simp [nameC, inB]; omega

set_option maxHeartbeats 2000000 in
theorem l31Name_any (s : ByteArray) (w : World) (hs : s.size ≤ 9223372036854775807) :
    Calls Tryd.prog 27 #[.string s] w fun e w' => e = .returned (.bool (nameB (bl s))) ∧ w = w' := by
  cases hq : inB (s.size : Int) 1 12
  · have hN : Hid (nameB (bl s) = false) := by unfold Hid nameB; rw [bl_length, hq]; rfl
    go_enter Tryd.func27, Tryd.ntmps27
    go_wp2_with (go_at_call 29; refine (l1In_any _ _ _ _).mono ?_; rw [hq]; rintro e w1 ⟨rfl, rfl⟩)
    go_ret
    exact ⟨ret_bool hN.out.symm, rfl⟩
  have hN : Hid (nameB (bl s) = (bl s).all nameC) := by unfold Hid nameB; rw [bl_length, hq]; rfl
  have h12 := (inB_true.1 hq).2
  go_enter Tryd.func27, Tryd.ntmps27
  go_wp2_with (go_at_call 29; refine (l1In_any _ _ _ _).mono ?_; rw [hq]; rintro e w1 ⟨rfl, rfl⟩)
  go_loop [3] (fun i => ∃ k : Nat, k ≤ s.size ∧ i = .int .i64 k ∧ Hid (((bl s).take k).all nameC = true)) (fun i => s.size - (intOf i).toNat)
  case atStart => exact ⟨0, Nat.zero_le _, rfl, by simp [Hid]⟩
  case round =>
    obtain ⟨k, hk, rfl, HD⟩ := hrel
    by_cases hlt : k < s.size
    · have hkl : k < (bl s).length := by rw [bl_length]; exact hlt
      have hge : (bl s)[k] = s[k] := bl_get s k hlt
      have hds := Lib.hid (name_step hkl)
      have hdn := Lib.hid (@name_no (bl s) k hkl)
      rw [hge] at hds hdn
      have hc256 := s[k].toNat_lt
      clear hge
      have no : nameC s[k] = false → Hid (nameB (bl s) = false) := fun h => by unfold Hid; rw [hN.out, hdn.out h]
      have yes : nameC s[k] = true → Hid (((bl s).take (k + 1)).all nameC = true) := fun h => by unfold Hid; rw [hds.out, HD.out, h]; rfl
      by_cases h1 : (s[k].toNat : Int) < 97
      · by_cases h3 : (s[k].toNat : Int) < 48
        · have hR := no (nameC_lo h3)
          clear no yes hds hdn HD
          go_wp2
          go_ret
          exact ⟨ret_bool hR.out.symm, rfl⟩
        · by_cases h4 : (57 : Int) < s[k].toNat
          · have hR := no (nameC_mid h4 h1)
            clear no yes hds hdn HD
            go_wp2
            go_ret
            exact ⟨ret_bool hR.out.symm, rfl⟩
          · have hR := yes (nameC_dig h3 h4)
            clear no yes hds hdn HD
            go_wp2
            go_round
            case rel => exact ⟨k + 1, by omega, by go_num, hR⟩
            case measure => simp [intOf]; omega
      · by_cases h2 : (122 : Int) < s[k].toNat
        · have hR := no (nameC_hi h2)
          have h3 : ¬ (s[k].toNat : Int) < 48 := by omega
          have h4 : (57 : Int) < s[k].toNat := by omega
          clear no yes hds hdn HD
          go_wp2
          go_ret
          exact ⟨ret_bool hR.out.symm, rfl⟩
        · have hR := yes (nameC_let h1 h2)
          clear no yes hds hdn HD
          go_wp2
          go_round
          case rel => exact ⟨k + 1, by omega, by go_num, hR⟩
          case measure => simp [intOf]; omega
    · obtain rfl : k = s.size := by omega
      have hR : Hid (nameB (bl s) = true) := by unfold Hid; rw [hN.out, ← HD.out, bl_take_all s _ (Nat.le_refl _)]
      clear HD hN
      go_wp2
      go_ret
      exact ⟨ret_bool hR.out.symm, rfl⟩

set_option maxHeartbeats 2000000 in
theorem nameOk_any (s : ByteArray) (w : World) (hs : s.size ≤ 9223372036854775807) :
    Calls Tryd.prog 31 #[.string s] w fun e w' => e = .returned (.bool (nameB (bl s))) ∧ w = w' := by
  go_enter Tryd.func31, Tryd.ntmps31
  go_wp2
  go_loop [7] (fun i => ∃ k : Nat, k ≤ s.size ∧ i = .int .i64 k ∧ Hid (((bl s).take k).all nameC = true)) (fun i => s.size - (intOf i).toNat)
  case atStart => exact ⟨0, Nat.zero_le _, rfl, by simp [Hid]⟩
  case round =>
    obtain ⟨k, hk, rfl, HD⟩ := hrel
    by_cases hlt : k < s.size
    · have hkl : k < (bl s).length := by rw [bl_length]; exact hlt
      have hge : (bl s)[k] = s[k] := bl_get s k hlt
      have hds := Lib.hid (name_step hkl)
      have hdn := Lib.hid (@name_no (bl s) k hkl)
      rw [hge] at hds hdn
      have hc256 := s[k].toNat_lt
      clear hge
      have no : nameC s[k] = false → Hid (nameB (bl s) = false) := fun h => by unfold Hid nameB; rw [hdn.out h, Bool.and_false]
      have yes : nameC s[k] = true → Hid (((bl s).take (k + 1)).all nameC = true) := fun h => by unfold Hid; rw [hds.out, HD.out, h]; rfl
      by_cases h1 : (s[k].toNat : Int) < 97
      · by_cases h3 : (s[k].toNat : Int) < 48
        · have hR := no (nameC_lo h3)
          clear no yes hds hdn HD
          go_wp2
          go_ret
          exact ⟨ret_bool hR.out.symm, rfl⟩
        · by_cases h4 : (57 : Int) < s[k].toNat
          · have hR := no (nameC_mid h4 h1)
            clear no yes hds hdn HD
            go_wp2
            go_ret
            exact ⟨ret_bool hR.out.symm, rfl⟩
          · have hR := yes (nameC_dig h3 h4)
            clear no yes hds hdn HD
            go_wp2
            go_round
            case rel => exact ⟨k + 1, by omega, by go_num, hR⟩
            case measure => simp [intOf]; omega
      · by_cases h2 : (122 : Int) < s[k].toNat
        · have hR := no (nameC_hi h2)
          have h3 : ¬ (s[k].toNat : Int) < 48 := by omega
          have h4 : (57 : Int) < s[k].toNat := by omega
          clear no yes hds hdn HD
          go_wp2
          go_ret
          exact ⟨ret_bool hR.out.symm, rfl⟩
        · have hR := yes (nameC_let h1 h2)
          clear no yes hds hdn HD
          go_wp2
          go_round
          case rel => exact ⟨k + 1, by omega, by go_num, hR⟩
          case measure => simp [intOf]; omega
    · obtain rfl : k = s.size := by omega
      have hR : Hid (nameB (bl s) = inB s.size 1 12) := by
        unfold Hid nameB
        have := HD.out
        rw [bl_take_all s _ (Nat.le_refl _)] at this
        rw [this, bl_length, Bool.and_true]
      clear HD
      go_wp2_with (go_at_call 33; refine (within_any _ _ _ _).mono ?_; rintro e w1 ⟨rfl, rfl⟩)
      go_ret
      exact ⟨ret_bool hR.out.symm, rfl⟩

set_option maxHeartbeats 400000 in
theorem l31System_any (x : Int) (w : World) : Calls Tryd.prog 28 #[.int .i64 x] w fun e w' => e = .returned (.bool (inB x 1 4)) ∧ w = w' := by
  go_enter Tryd.func28, Tryd.ntmps28
  go_wp2_with (go_at_call 29; refine (l1In_any _ _ _ _).mono ?_; rintro e w1 ⟨rfl, rfl⟩)
  go_ret
  exact ⟨rfl, rfl⟩
set_option maxHeartbeats 400000 in
theorem systemOk_any (x : Int) (w : World) : Calls Tryd.prog 32 #[.int .i64 x] w fun e w' => e = .returned (.bool (inB x 1 4)) ∧ w = w' := by
  go_enter Tryd.func32, Tryd.ntmps32
  go_wp2_with (go_at_call 33; refine (within_any _ _ _ _).mono ?_; rintro e w1 ⟨rfl, rfl⟩)
  go_ret
  exact ⟨rfl, rfl⟩
end Go.Proofs.YtcapiijpfoapkaaDoor
