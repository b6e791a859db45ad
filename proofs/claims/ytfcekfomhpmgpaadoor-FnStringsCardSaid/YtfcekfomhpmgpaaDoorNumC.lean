/- Contract: the reference's reading of numbers. -/
import Derived.Test.YtfcekfomhpmgpaaDoorNumB
namespace Go.Proofs.YtfcekfomhpmgpaaDoor
open Go.RowKit

theorem numB_at {l m : List UInt8} {v : Int} {n : Nat} (h1 : magB l = m) (h2 : sgnV l = v) (h3 : m.length = n) : numB l = if inB n 1 6 && m.all isDig && Lib.itoa v == l then (v, true) else (0, false) := by rw [numB_read, h1, h2, h3]
theorem dig_step {l : List UInt8} {k : Nat} (hk : k < l.length) : (l.take (k + 1)).all isDig = ((l.take k).all isDig && isDig l[k]) := by
  rw [List.take_succ_eq_append_getElem hk, List.all_append]; simp
theorem val_step {l : List UInt8} {k : Nat} (hk : k < l.length) : valD (l.take (k + 1)) = valD (l.take k) * 10 + (l[k].toNat - 48) := by
  rw [List.take_succ_eq_append_getElem hk, valD_snoc]
theorem dig_no {l : List UInt8} {k : Nat} (hk : k < l.length) (h : isDig l[k] = false) : l.all isDig = false := by
  rw [List.all_eq_false]; exact ⟨_, List.getElem_mem hk, by simpa using h⟩
theorem val_small {l : List UInt8} {k : Nat} (hk : k ≤ 6) (h : (l.take k).all isDig = true) : valD (l.take k) ≤ 999999 := by
  have h1 := valD_lt _ (l.take k) rfl h
  have h2 : 10 ^ (l.take k).length ≤ 10 ^ 6 := Nat.pow_le_pow_right (by decide) (by rw [List.length_take]; omega)
  omega

set_option maxHeartbeats 4000000 in
theorem l1Read_any (s : ByteArray) (w : World) (hs : s.size ≤ 1000000) :
    Calls Tryd.prog 79 #[.string s] w fun e w' => e = .returned (.tuple #[.int .i64 (numB (bl s)).1, .bool (numB (bl s)).2]) ∧ Below w.heap.size w w' := by
  by_cases h1s : 1 < s.size
  case neg =>
    have hneg : negB (bl s) = false := by unfold negB; rw [bl_length, decide_eq_false (by omega)]; rfl
    have hR := Lib.hid (numB_at (l := bl s) (m := bl s) (v := (valD (bl s) : Int)) (by unfold magB; rw [hneg]; rfl) (by unfold sgnV magB; rw [hneg]; rfl) (bl_length _))
    obtain ⟨q6, hq6⟩ : ∃ q, inB ((bl s).length : Int) 1 6 = q := ⟨_, rfl⟩
    rw [bl_length] at hq6
    replace hq6 := Lib.hid hq6
    have hsz : ¬ (1 : Int) < (s.size : Int) := by omega
    clear hneg
    go_enter Tryd.func79, Tryd.ntmps79
    go_wp2_with fail
    refine (l1In_any _ _ _ _).mono ?_
    rintro e w1 ⟨rfl, rfl⟩
    rw [show inB (s.size : Int) 1 6 = q6 from hq6.out]
    cases q6
    · have hN : Hid (numB (bl s) = (0, false)) := by unfold Hid; rw [hR.out, hq6.out]; rfl
      go_wp2_with fail
      go_ret2
      exact ⟨by rw [hN.out]; rfl, bb _⟩
    have hT6 : s.size ≤ 6 := by have := (inB_true.1 hq6.out).2; omega
    go_wp2_with fail
    go_loop [5, 6] (fun z i => ∃ k : Nat, k ≤ s.size ∧ i = .int .i64 k ∧ z = .int .i64 (valD ((bl s).take k)) ∧ Hid (((bl s).take k).all isDig = true)) (fun _ i => s.size - (intOf i).toNat)
    case atStart => exact ⟨0, Nat.zero_le _, rfl, rfl, by simp [Hid]⟩
    case round =>
      obtain ⟨k, hk, rfl, rfl, HD⟩ := hrel
      have hv9 := val_small (l := bl s) (k := k) (by omega) HD.out
      by_cases hlt : k < s.size
      · have hkl : k < (bl s).length := by rw [bl_length]; exact hlt
        have hge : (bl s)[k] = s[k] := bl_get s k hlt
        have hds := Lib.hid (dig_step hkl)
        have hvs := Lib.hid (val_step hkl)
        have hdn := Lib.hid (@dig_no (bl s) k hkl)
        rw [hge] at hds hvs hdn
        have hc256 := s[k].toNat_lt
        clear hge
        by_cases h1 : (s[k].toNat : Int) < 48
        · have hN : Hid (numB (bl s) = (0, false)) := by unfold Hid; rw [hR.out, hdn.out (by simp [isDig]; omega), Bool.and_false, Bool.false_and]; rfl
          clear hds hvs hdn HD
          go_wp2_with fail
          go_ret2
          exact ⟨by rw [hN.out]; rfl, bb _⟩
        by_cases h2 : (57 : Int) < (s[k].toNat : Int)
        · have hN : Hid (numB (bl s) = (0, false)) := by unfold Hid; rw [hR.out, hdn.out (by simp [isDig]; omega), Bool.and_false, Bool.false_and]; rfl
          clear hds hvs hdn HD
          go_wp2_with fail
          go_ret2
          exact ⟨by rw [hN.out]; rfl, bb _⟩
        have hD2 : Hid (((bl s).take (k + 1)).all isDig = true) := by unfold Hid; rw [hds.out, HD.out]; simp [isDig]; omega
        have h48 : (48 : Int) ≤ (s[k].toNat : Int) := by omega
        have hV2 : Hid ((valD ((bl s).take (k + 1)) : Int) = 10 * (valD ((bl s).take k) : Int) + ((s[k].toNat : Int) - 48)) := by unfold Hid; rw [hvs.out]; omega
        clear hds hvs hdn HD
        go_wp2_with fail
        go_round
        case rel => exact ⟨k + 1, by omega, by go_num, by rw [hV2.out]; first | rfl | (go_num; done) | (congr 1; omega), hD2⟩
        case measure => simp [intOf]; omega
      · obtain rfl : k = s.size := by omega
        have HA := HD.out
        rw [bl_take_all s _ (Nat.le_refl _)] at HA hv9 ⊢
        have hN : numB (bl s) = if Lib.itoa ((valD (bl s) : Int)) == bl s then ((valD (bl s) : Int), true) else (0, false) := by rw [hR.out, hq6.out, HA]; rfl
        generalize valD (bl s) = V at hN hv9 ⊢
        obtain ⟨qq, hqq⟩ : ∃ qq, (Lib.itoa ((V : Int)) == bl s) = qq := ⟨_, rfl⟩
        rw [hqq] at hN
        have hq' : (Lib.itoa ((V : Int)) != bl s) = !qq := by rw [← hqq]; rfl
        replace hN := Lib.hid hN
        clear HA HD hR
        have hlt2 : ¬ (s.size : Int) < (s.size : Int) := by omega
        cases qq
        all_goals
          simp only [Bool.not_true, Bool.not_false] at hq'
          go_wp2_with fail
          refine (l1Num_any _ _ (by omega) (by omega)).mono ?_
          rintro e w2 ⟨rfl, hb2⟩
          go_wp2_with fail
          go_ret2
          exact ⟨by rw [hN.out]; rfl, hb2⟩
  by_cases h45 : s[0].toNat = 45
  case neg =>
    have hneg : negB (bl s) = false := by
      unfold negB
      have : (bl s).head? = some s[0] := by rw [List.head?_eq_getElem?, List.getElem?_eq_getElem (by rw [bl_length]; omega), bl_get s 0 (by omega)]
      rw [this]
      simp only [Bool.and_eq_false_iff, Option.map_some, beq_eq_false_iff_ne, ne_eq, Option.some.injEq]
      right; simpa using h45
    have hR := Lib.hid (numB_at (l := bl s) (m := bl s) (v := (valD (bl s) : Int)) (by unfold magB; rw [hneg]; rfl) (by unfold sgnV magB; rw [hneg]; rfl) (bl_length _))
    obtain ⟨q6, hq6⟩ : ∃ q, inB ((bl s).length : Int) 1 6 = q := ⟨_, rfl⟩
    rw [bl_length] at hq6
    replace hq6 := Lib.hid hq6
    have hsz : (1 : Int) < (s.size : Int) := by omega
    have h0 : 0 < s.size := by omega
    have h45' : ((s[0].toNat : Int) == 45) = false := by rw [beq_eq_false_iff_ne]; omega
    clear hneg h45
    go_enter Tryd.func79, Tryd.ntmps79
    go_wp2_with fail
    refine (l1In_any _ _ _ _).mono ?_
    rintro e w1 ⟨rfl, rfl⟩
    rw [show inB (s.size : Int) 1 6 = q6 from hq6.out]
    cases q6
    · have hN : Hid (numB (bl s) = (0, false)) := by unfold Hid; rw [hR.out, hq6.out]; rfl
      go_wp2_with fail
      go_ret2
      exact ⟨by rw [hN.out]; rfl, bb _⟩
    have hT6 : s.size ≤ 6 := by have := (inB_true.1 hq6.out).2; omega
    go_wp2_with fail
    go_loop [5, 6] (fun z i => ∃ k : Nat, k ≤ s.size ∧ i = .int .i64 k ∧ z = .int .i64 (valD ((bl s).take k)) ∧ Hid (((bl s).take k).all isDig = true)) (fun _ i => s.size - (intOf i).toNat)
    case atStart => exact ⟨0, Nat.zero_le _, rfl, rfl, by simp [Hid]⟩
    case round =>
      obtain ⟨k, hk, rfl, rfl, HD⟩ := hrel
      have hv9 := val_small (l := bl s) (k := k) (by omega) HD.out
      by_cases hlt : k < s.size
      · have hkl : k < (bl s).length := by rw [bl_length]; exact hlt
        have hge : (bl s)[k] = s[k] := bl_get s k hlt
        have hds := Lib.hid (dig_step hkl)
        have hvs := Lib.hid (val_step hkl)
        have hdn := Lib.hid (@dig_no (bl s) k hkl)
        rw [hge] at hds hvs hdn
        have hc256 := s[k].toNat_lt
        clear hge
        by_cases h1 : (s[k].toNat : Int) < 48
        · have hN : Hid (numB (bl s) = (0, false)) := by unfold Hid; rw [hR.out, hdn.out (by simp [isDig]; omega), Bool.and_false, Bool.false_and]; rfl
          clear hds hvs hdn HD
          go_wp2_with fail
          go_ret2
          exact ⟨by rw [hN.out]; rfl, bb _⟩
        by_cases h2 : (57 : Int) < (s[k].toNat : Int)
        · have hN : Hid (numB (bl s) = (0, false)) := by unfold Hid; rw [hR.out, hdn.out (by simp [isDig]; omega), Bool.and_false, Bool.false_and]; rfl
          clear hds hvs hdn HD
          go_wp2_with fail
          go_ret2
          exact ⟨by rw [hN.out]; rfl, bb _⟩
        have hD2 : Hid (((bl s).take (k + 1)).all isDig = true) := by unfold Hid; rw [hds.out, HD.out]; simp [isDig]; omega
        have h48 : (48 : Int) ≤ (s[k].toNat : Int) := by omega
        have hV2 : Hid ((valD ((bl s).take (k + 1)) : Int) = 10 * (valD ((bl s).take k) : Int) + ((s[k].toNat : Int) - 48)) := by unfold Hid; rw [hvs.out]; omega
        clear hds hvs hdn HD
        go_wp2_with fail
        go_round
        case rel => exact ⟨k + 1, by omega, by go_num, by rw [hV2.out]; first | rfl | (go_num; done) | (congr 1; omega), hD2⟩
        case measure => simp [intOf]; omega
      · obtain rfl : k = s.size := by omega
        have HA := HD.out
        rw [bl_take_all s _ (Nat.le_refl _)] at HA hv9 ⊢
        have hN : numB (bl s) = if Lib.itoa ((valD (bl s) : Int)) == bl s then ((valD (bl s) : Int), true) else (0, false) := by rw [hR.out, hq6.out, HA]; rfl
        generalize valD (bl s) = V at hN hv9 ⊢
        obtain ⟨qq, hqq⟩ : ∃ qq, (Lib.itoa ((V : Int)) == bl s) = qq := ⟨_, rfl⟩
        rw [hqq] at hN
        have hq' : (Lib.itoa ((V : Int)) != bl s) = !qq := by rw [← hqq]; rfl
        replace hN := Lib.hid hN
        clear HA HD hR
        have hlt2 : ¬ (s.size : Int) < (s.size : Int) := by omega
        cases qq
        all_goals
          simp only [Bool.not_true, Bool.not_false] at hq'
          go_wp2_with fail
          refine (l1Num_any _ _ (by omega) (by omega)).mono ?_
          rintro e w2 ⟨rfl, hb2⟩
          go_wp2_with fail
          go_ret2
          exact ⟨by rw [hN.out]; rfl, hb2⟩
  have hneg : negB (bl s) = true := by
    unfold negB
    have : (bl s).head? = some s[0] := by rw [List.head?_eq_getElem?, List.getElem?_eq_getElem (by rw [bl_length]; omega), bl_get s 0 (by omega)]
    rw [this, bl_length, decide_eq_true h1s]
    simp [h45]
  obtain ⟨T, hT⟩ : ∃ T, s.extract 1 s.size = T := ⟨_, rfl⟩
  have hTb : (bl s).tail = bl T := by rw [← hT, bl_extract, List.take_of_length_le (by rw [List.length_drop, bl_length]; omega), List.drop_one]
  have hTs : T.size + 1 = s.size := by have h := congrArg List.length hTb; rw [List.length_tail, bl_length, bl_length] at h; omega
  have hR := Lib.hid (numB_at (l := bl s) (m := bl T) (v := -(valD (bl T) : Int)) (by unfold magB; rw [hneg, ← hTb]; rfl) (by unfold sgnV magB; rw [hneg, ← hTb]; rfl) (bl_length _))
  obtain ⟨q6, hq6⟩ : ∃ q, inB ((bl T).length : Int) 1 6 = q := ⟨_, rfl⟩
  rw [bl_length] at hq6
  replace hq6 := Lib.hid hq6
  have hsz : (1 : Int) < (s.size : Int) := by omega
  have h0 : 0 < s.size := by omega
  have h45' : ((s[0].toNat : Int) == 45) = true := by rw [beq_iff_eq]; omega
  have hTs2 : T.size < s.size := by omega
  replace hTs := Lib.hid hTs
  clear hneg h45 hTb
  go_enter Tryd.func79, Tryd.ntmps79
  go_wp2_with fail
  refine (l1In_any _ _ _ _).mono ?_
  rintro e w1 ⟨rfl, rfl⟩
  rw [show inB (T.size : Int) 1 6 = q6 from hq6.out]
  cases q6
  · have hN : Hid (numB (bl s) = (0, false)) := by unfold Hid; rw [hR.out, hq6.out]; rfl
    go_wp2_with fail
    go_ret2
    exact ⟨by rw [hN.out]; rfl, bb _⟩
  have hT6 : T.size ≤ 6 := by have := (inB_true.1 hq6.out).2; omega
  go_wp2_with fail
  go_loop [5, 6] (fun z i => ∃ k : Nat, k ≤ T.size ∧ i = .int .i64 k ∧ z = .int .i64 (valD ((bl T).take k)) ∧ Hid (((bl T).take k).all isDig = true)) (fun _ i => T.size - (intOf i).toNat)
  case atStart => exact ⟨0, Nat.zero_le _, rfl, rfl, by simp [Hid]⟩
  case round =>
    obtain ⟨k, hk, rfl, rfl, HD⟩ := hrel
    have hv9 := val_small (l := bl T) (k := k) (by omega) HD.out
    by_cases hlt : k < T.size
    · have hkl : k < (bl T).length := by rw [bl_length]; exact hlt
      have hge : (bl T)[k] = T[k] := bl_get T k hlt
      have hds := Lib.hid (dig_step hkl)
      have hvs := Lib.hid (val_step hkl)
      have hdn := Lib.hid (@dig_no (bl T) k hkl)
      rw [hge] at hds hvs hdn
      have hc256 := T[k].toNat_lt
      clear hge
      by_cases h1 : (T[k].toNat : Int) < 48
      · have hN : Hid (numB (bl s) = (0, false)) := by unfold Hid; rw [hR.out, hdn.out (by simp [isDig]; omega), Bool.and_false, Bool.false_and]; rfl
        clear hds hvs hdn HD
        go_wp2_with fail
        go_ret2
        exact ⟨by rw [hN.out]; rfl, bb _⟩
      by_cases h2 : (57 : Int) < (T[k].toNat : Int)
      · have hN : Hid (numB (bl s) = (0, false)) := by unfold Hid; rw [hR.out, hdn.out (by simp [isDig]; omega), Bool.and_false, Bool.false_and]; rfl
        clear hds hvs hdn HD
        go_wp2_with fail
        go_ret2
        exact ⟨by rw [hN.out]; rfl, bb _⟩
      have hD2 : Hid (((bl T).take (k + 1)).all isDig = true) := by unfold Hid; rw [hds.out, HD.out]; simp [isDig]; omega
      have h48 : (48 : Int) ≤ (T[k].toNat : Int) := by omega
      have hV2 : Hid ((valD ((bl T).take (k + 1)) : Int) = 10 * (valD ((bl T).take k) : Int) + ((T[k].toNat : Int) - 48)) := by unfold Hid; rw [hvs.out]; omega
      clear hds hvs hdn HD
      go_wp2_with fail
      go_round
      case rel => exact ⟨k + 1, by omega, by go_num, by rw [hV2.out]; first | rfl | (go_num; done) | (congr 1; omega), hD2⟩
      case measure => simp [intOf]; omega
    · obtain rfl : k = T.size := by omega
      have HA := HD.out
      rw [bl_take_all T _ (Nat.le_refl _)] at HA hv9 ⊢
      have hN : numB (bl s) = if Lib.itoa (-(valD (bl T) : Int)) == bl s then (-(valD (bl T) : Int), true) else (0, false) := by rw [hR.out, hq6.out, HA]; rfl
      generalize valD (bl T) = V at hN hv9 ⊢
      obtain ⟨qq, hqq⟩ : ∃ qq, (Lib.itoa (-(V : Int)) == bl s) = qq := ⟨_, rfl⟩
      rw [hqq] at hN
      have hq' : (Lib.itoa (-(V : Int)) != bl s) = !qq := by rw [← hqq]; rfl
      replace hN := Lib.hid hN
      clear HA HD hR
      have hlt2 : (T.size : Int) < (s.size : Int) := by omega
      cases qq
      all_goals
        simp only [Bool.not_true, Bool.not_false] at hq'
        go_wp2_with fail
        refine (l1Num_any _ _ (by omega) (by omega)).mono ?_
        rintro e w2 ⟨rfl, hb2⟩
        go_wp2_with fail
        go_ret2
        exact ⟨by rw [hN.out]; rfl, hb2⟩

set_option maxHeartbeats 400000 in
theorem specParse_any (s : ByteArray) (w : World) (hs : s.size ≤ 1000000) :
    Calls Tryd.prog 43 #[.string s] w fun e w' => e = .returned (.tuple #[.int .i64 (numB (bl s)).1, .bool (numB (bl s)).2]) ∧ Below w.heap.size w w' := by
  have hC := Lib.hid fun w => l1Read_any s w hs
  generalize numB (bl s) = r at hC ⊢
  obtain ⟨r1, r2⟩ := r
  go_enter Tryd.func43, Tryd.ntmps43
  go_wp2_with fail
  refine (hC.out _).mono ?_
  rintro e w1 ⟨rfl, hb1⟩
  go_wp2_with fail
  go_ret2
  exact ⟨rfl, hb1⟩
end Go.Proofs.YtfcekfomhpmgpaaDoor
