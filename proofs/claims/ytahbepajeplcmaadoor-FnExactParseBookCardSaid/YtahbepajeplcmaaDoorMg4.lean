/- Lemmas and contracts for a law, put together out of several texts: BpA SepB OwnB SpA PbP RbA RbP RbL RbW. -/
import Derived.Test.YtahbepajeplcmaaDoorMg1
import Derived.Test.YtahbepajeplcmaaDoorMg2
import Derived.Test.YtahbepajeplcmaaDoorShelf
import Derived.Test.YtahbepajeplcmaaDoorMg3
import Derived.Lib.SplitLaws
import Derived.Lib.Join
import Derived.RangeFuncFrom
import Derived.RangeFuncNested
import Derived.RangeFuncBound
import Derived.RangeFuncCalls
import Derived.RangeFuncLeaves
import Derived.RangeFuncBox
import Derived.Shelf.Abstract
import Derived.Shelf.RegionOpen
import Derived.WalkKit
import Derived.OwnWalkIn
import Derived.TacticsInMore
import Derived.LoopNIn
import Derived.LoopIn
import Derived.Sort.CutIn
import Derived.OrdersIn
/- Contracts: numbers read, in texts of up to two million bytes. Printed by gen_bpa.py. -/
namespace Go.Proofs.YtahbepajeplcmaaDoor
open Go.RowKit

/-- What the reading of books needs of the world: the table of powers of ten, the library's variables. -/
structure PEnv (w : World) : Prop where
  pw : EnvI w
  maxlen : ∃ m : Int, w.cell? ⟨1, 0, none⟩ = some (.int .i64 m)
  e1 : ∃ (tp : TypeId) (p : Value), w.cell? ⟨4, 0, none⟩ = some (.iface tp p)
  e2 : ∃ (tp : TypeId) (p : Value), w.cell? ⟨5, 0, none⟩ = some (.iface tp p)
theorem PEnv.grow {w w' : World} (h : PEnv w) (hb : Below w.heap.size w w') : PEnv w' := by
  obtain ⟨h0, ⟨m, hm⟩, ⟨t1, p1, h1⟩, ⟨t2, p2, h2⟩⟩ := h
  exact ⟨h0.grow hb, ⟨m, (hb.cell (World.block_lt_of_cell? _ _ hm)).trans hm⟩, ⟨t1, p1, (hb.cell (World.block_lt_of_cell? _ _ h1)).trans h1⟩, ⟨t2, p2, (hb.cell (World.block_lt_of_cell? _ _ h2)).trans h2⟩⟩
theorem itoa_envP (n : Int) (h0 : -9223372036854775808 ≤ n) (h1 : n ≤ 9223372036854775807) (w : World) (hE : PEnv w) :
    Calls Tryd.prog 50 #[.int .i64 n] w fun e w' => e = .returned (.string (ms (Lib.itoa n))) ∧ Below w.heap.size w w' := by
  refine (Tryd.strconv_Itoa n h0 h1 w hE.pw.pow).mono ?_
  rintro e w' ⟨rfl, k, os, rfl⟩
  exact ⟨rfl, below_regrown w (w.drewN k).drawn os⟩
theorem bytes_belowP (w : World) (e : TypeId) (t : ByteArray) : Below w.heap.size w (Lib.bytesWorld w e t) :=
  ⟨rfl, rfl, rfl, by rw [Lib.bytesWorld_size]; omega, fun k hk => Lib.bytesWorld_at_old w e t k hk⟩
theorem atoi_yesP {s : ByteArray} {v : Int} (hs : s.size ≤ 2000000) (h : Lib.atoiAll (bl s) = .ok v) (w : World) :
    Calls Tryd.prog 61 #[.string s] w fun e w' => e = .returned (.tuple #[.int .i64 v, .nilIface]) ∧ Below w.heap.size w w' := by
  refine (Tryd.strconv_Atoi_ok s (by omega) v h w).mono ?_
  rintro e w' ⟨rfl, rfl | ⟨t, rfl⟩⟩
  · exact ⟨rfl, bb _⟩
  · exact ⟨rfl, bytes_belowP w _ t⟩
/-- A number and an error that is not nil. -/
def AtoiNoP (w : World) (e : Ending) (w' : World) : Prop :=
  ∃ (x : Int) (N : Nat), -9223372036854775808 ≤ x ∧ x ≤ 9223372036854775807 ∧ e = .returned (.tuple #[.int .i64 x, .iface 101 (.pointer (some ⟨N, 0, none⟩))]) ∧ Below w.heap.size w w'
theorem atoi_noP {s : ByteArray} (hs : s.size ≤ 2000000) (h : ∀ v, Lib.atoiAll (bl s) ≠ .ok v) (w : World) (hE : PEnv w) : Calls Tryd.prog 61 #[.string s] w (AtoiNoP w) := by
  obtain ⟨t1, p1, h1⟩ := hE.e1
  obtain ⟨t2, p2, h2⟩ := hE.e2
  rcases hq : Lib.atoiAll (bl s) with v | _ | _
  · exact absurd hq (h v)
  · refine (Any.strconv_Atoi_syntax Tryd.laysC172 s (by omega) hq _ w h1 (.inr ⟨t1, p1, rfl⟩)).mono ?_
    rintro e w' ⟨N, rfl, _, _, hb⟩
    exact ⟨0, N, by decide, by decide, rfl, hb⟩
  · refine (Tryd.strconv_Atoi_range s (by omega) hq _ w h2 (.inr ⟨t2, p2, rfl⟩)).mono ?_
    rintro e w' ⟨N, rfl, _, _, hb⟩
    have hx := Lib.atoiSat_bounds (bl s)
    exact ⟨_, N, hx.1, hx.2, rfl, hb⟩

/-- What FormatInt gives. -/
def fmtBP (n : Int) : List UInt8 × Bool := if inB n (-999999) 999999 then (Lib.itoa n, true) else ([], false)
set_option maxHeartbeats 400000 in
theorem implFormat_anyP (n : Int) (w : World) (hE : PEnv w) (h0 : -9223372036854775808 ≤ n) (h1 : n ≤ 9223372036854775807) :
    Calls Tryd.prog 62 #[.int .i64 n] w fun e w' => e = .returned (.tuple #[.string (ms (fmtBP n).1), .bool (fmtBP n).2]) ∧ Below w.heap.size w w' := by
  have hEH := Lib.hid hE
  clear hE
  cases hq : inB n (-999999) 999999
  · have hR : Hid (fmtBP n = ([], false)) := by unfold Hid fmtBP; rw [hq]; rfl
    go_enter Tryd.func62, Tryd.ntmps62
    go_wp2_with fail
    refine (within_any _ _ _ _).mono ?_
    rw [hq]
    rintro e w1 ⟨rfl, rfl⟩
    go_wp2_with fail
    go_ret2
    exact ⟨by rw [hR.out]; rfl, bb _⟩
  · have hR : Hid (fmtBP n = (Lib.itoa n, true)) := by unfold Hid fmtBP; rw [hq]; rfl
    go_enter Tryd.func62, Tryd.ntmps62
    go_wp2_with fail
    refine (within_any _ _ _ _).mono ?_
    rw [hq]
    rintro e w1 ⟨rfl, rfl⟩
    go_wp2_with fail
    refine (itoa_envP n h0 h1 _ hEH.out).mono ?_
    rintro e w2 ⟨rfl, hb2⟩
    go_wp2_with fail
    go_ret2
    exact ⟨by rw [hR.out]; rfl, hb2⟩
theorem implFormat_atP {n : Int} {f1 : List UInt8} {f2 : Bool} (h : fmtBP n = (f1, f2)) (w : World) (hE : PEnv w) (h0 : -9223372036854775808 ≤ n) (h1 : n ≤ 9223372036854775807) :
    Calls Tryd.prog 62 #[.int .i64 n] w fun e w' => e = .returned (.tuple #[.string (ms f1), .bool f2]) ∧ Below w.heap.size w w' := by
  have := implFormat_anyP n w hE h0 h1
  rw [h] at this
  exact this
set_option maxHeartbeats 1000000 in
theorem implParse_anyP (s : ByteArray) (w : World) (hE : PEnv w) (hs : s.size ≤ 2000000) :
    Calls Tryd.prog 47 #[.string s] w fun e w' => e = .returned (.tuple #[.int .i64 (numB (bl s)).1, .bool (numB (bl s)).2]) ∧ Below w.heap.size w w' := by
  have hEH := Lib.hid hE
  clear hE
  by_cases hv : ∃ v, Lib.atoiAll (bl s) = .ok v
  · obtain ⟨v, hv⟩ := hv
    have hN := numB_ok hv
    obtain ⟨hb0, hb1⟩ := Lib.atoiAll_bounds hv
    have hC := Lib.hid fun w => atoi_yesP hs hv w
    clear hv
    obtain ⟨fm, hfm⟩ : ∃ fm, fmtBP v = fm := ⟨_, rfl⟩
    obtain ⟨f1, f2⟩ := fm
    have hF := Lib.hid fun (w : World) (hE : PEnv w) => implFormat_atP hfm w hE hb0 hb1
    unfold fmtBP at hfm
    cases hq : inB v (-999999) 999999
    · rw [hq] at hfm hN
      simp only [Bool.false_eq_true, if_false, Prod.mk.injEq, Bool.false_and] at hfm hN
      obtain ⟨rfl, rfl⟩ := hfm
      replace hN := Lib.hid hN
      clear hq
      go_enter Tryd.func47, Tryd.ntmps47
      go_wp2_with fail
      refine (hC.out _).mono ?_
      rintro e w1 ⟨rfl, hb1'⟩
      go_wp2_with fail
      refine (hF.out _ (hEH.out.grow hb1')).mono ?_
      rintro e w2 ⟨rfl, hb2⟩
      go_wp2_with fail
      go_ret2
      exact ⟨by rw [hN.out]; rfl, btr hb1' hb2⟩
    · rw [hq] at hfm hN
      simp only [if_true, Prod.mk.injEq, Bool.true_and] at hfm hN
      obtain ⟨rfl, rfl⟩ := hfm
      clear hq
      cases hq : Lib.itoa v == bl s
      · rw [hq] at hN
        simp only [Bool.false_eq_true, if_false] at hN
        replace hN := Lib.hid hN
        have hq' : (Lib.itoa v != bl s) = true := by simp [bne, hq]
        go_enter Tryd.func47, Tryd.ntmps47
        go_wp2_with fail
        refine (hC.out _).mono ?_
        rintro e w1 ⟨rfl, hb1'⟩
        go_wp2_with fail
        refine (hF.out _ (hEH.out.grow hb1')).mono ?_
        rintro e w2 ⟨rfl, hb2⟩
        go_wp2_with fail
        go_ret2
        exact ⟨by rw [hN.out]; rfl, btr hb1' hb2⟩
      · rw [hq] at hN
        simp only [if_true] at hN
        replace hN := Lib.hid hN
        have hq' : (Lib.itoa v != bl s) = false := by simp [bne, hq]
        go_enter Tryd.func47, Tryd.ntmps47
        go_wp2_with fail
        refine (hC.out _).mono ?_
        rintro e w1 ⟨rfl, hb1'⟩
        go_wp2_with fail
        refine (hF.out _ (hEH.out.grow hb1')).mono ?_
        rintro e w2 ⟨rfl, hb2⟩
        go_wp2_with fail
        go_ret2
        exact ⟨by rw [hN.out]; rfl, btr hb1' hb2⟩
  · have hN := Lib.hid (numB_no (l := bl s) fun v e => hv ⟨v, e⟩)
    have hC := Lib.hid fun w hE => atoi_noP (s := s) hs (fun v e => hv ⟨v, e⟩) w hE
    clear hv
    go_enter Tryd.func47, Tryd.ntmps47
    go_wp2_with fail
    refine (hC.out _ hEH.out).mono ?_
    rintro e w1 ⟨x, N, hx0, hx1, rfl, hb1⟩
    go_wp2_with fail
    refine (implFormat_anyP x _ (hEH.out.grow hb1) hx0 hx1).mono ?_
    generalize fmtBP x = fm
    obtain ⟨f1, f2⟩ := fm
    rintro e w2 ⟨rfl, hb2⟩
    go_wp2_with fail
    go_ret2
    exact ⟨by rw [hN.out]; rfl, btr hb1 hb2⟩

theorem numB_atP {l m : List UInt8} {v : Int} {n : Nat} (h1 : magB l = m) (h2 : sgnV l = v) (h3 : m.length = n) : numB l = if inB n 1 6 && m.all isDig && Lib.itoa v == l then (v, true) else (0, false) := by rw [numB_read, h1, h2, h3]
theorem dig_stepP {l : List UInt8} {k : Nat} (hk : k < l.length) : (l.take (k + 1)).all isDig = ((l.take k).all isDig && isDig l[k]) := by
  rw [List.take_succ_eq_append_getElem hk, List.all_append]; simp
theorem val_stepP {l : List UInt8} {k : Nat} (hk : k < l.length) : valD (l.take (k + 1)) = valD (l.take k) * 10 + (l[k].toNat - 48) := by
  rw [List.take_succ_eq_append_getElem hk, valD_snoc]
theorem dig_noP {l : List UInt8} {k : Nat} (hk : k < l.length) (h : isDig l[k] = false) : l.all isDig = false := by
  rw [List.all_eq_false]; exact ⟨_, List.getElem_mem hk, by simpa using h⟩
theorem val_smallP {l : List UInt8} {k : Nat} (hk : k ≤ 6) (h : (l.take k).all isDig = true) : valD (l.take k) ≤ 999999 := by
  have h1 := valD_lt _ (l.take k) rfl h
  have h2 : 10 ^ (l.take k).length ≤ 10 ^ 6 := Nat.pow_le_pow_right (by decide) (by rw [List.length_take]; omega)
  omega

set_option maxHeartbeats 4000000 in
theorem l1Read_anyP (s : ByteArray) (w : World) (hs : s.size ≤ 2000000) :
    Calls Tryd.prog 24 #[.string s] w fun e w' => e = .returned (.tuple #[.int .i64 (numB (bl s)).1, .bool (numB (bl s)).2]) ∧ Below w.heap.size w w' := by
  by_cases h1s : 1 < s.size
  case neg =>
    have hneg : negB (bl s) = false := by unfold negB; rw [bl_length, decide_eq_false (by omega)]; rfl
    have hR := Lib.hid (numB_atP (l := bl s) (m := bl s) (v := (valD (bl s) : Int)) (by unfold magB; rw [hneg]; rfl) (by unfold sgnV magB; rw [hneg]; rfl) (bl_length _))
    obtain ⟨q6, hq6⟩ : ∃ q, inB ((bl s).length : Int) 1 6 = q := ⟨_, rfl⟩
    rw [bl_length] at hq6
    replace hq6 := Lib.hid hq6
    have hsz : ¬ (1 : Int) < (s.size : Int) := by omega
    clear hneg
    go_enter Tryd.func24, Tryd.ntmps24
    go_wp2_with fail
    refine (l1In_any _ _ _ _).mono ?_
    rintro e w1 ⟨rfl, rfl⟩
    rw [show inB (s.size : Int) 1 6 = q6 from hq6.out]
    cases q6
    · have hN : Hid (numB (bl s) = (0, false)) := by unfold Hid; rw [hR.out, hq6.out]; rfl
      go_wp2_with fail
      go_ret2
      exact ⟨by rw [hN.out]; rfl, bb _⟩
    have hT6 : s.size ≤ 6 := by have := (inB_true.1 hq6.out).2; omega
    go_wp2_with fail
    go_loop [5, 6] (fun z i => ∃ k : Nat, k ≤ s.size ∧ i = .int .i64 k ∧ z = .int .i64 (valD ((bl s).take k)) ∧ Hid (((bl s).take k).all isDig = true)) (fun _ i => s.size - (intOf i).toNat)
    case atStart => exact ⟨0, Nat.zero_le _, rfl, rfl, by simp [Hid]⟩
    case round =>
      obtain ⟨k, hk, rfl, rfl, HD⟩ := hrel
      have hv9 := val_smallP (l := bl s) (k := k) (by omega) HD.out
      by_cases hlt : k < s.size
      · have hkl : k < (bl s).length := by rw [bl_length]; exact hlt
        have hge : (bl s)[k] = s[k] := bl_get s k hlt
        have hds := Lib.hid (dig_stepP hkl)
        have hvs := Lib.hid (val_stepP hkl)
        have hdn := Lib.hid (@dig_noP (bl s) k hkl)
        rw [hge] at hds hvs hdn
        have hc256 := s[k].toNat_lt
        clear hge
        by_cases h1 : (s[k].toNat : Int) < 48
        · have hN : Hid (numB (bl s) = (0, false)) := by unfold Hid; rw [hR.out, hdn.out (by simp [isDig]; omega), Bool.and_false, Bool.false_and]; rfl
          clear hds hvs hdn HD
          go_wp2_with fail
          go_ret2
          exact ⟨by rw [hN.out]; rfl, bb _⟩
        by_cases h2 : (57 : Int) < (s[k].toNat : Int)
        · have hN : Hid (numB (bl s) = (0, false)) := by unfold Hid; rw [hR.out, hdn.out (by simp [isDig]; omega), Bool.and_false, Bool.false_and]; rfl
          clear hds hvs hdn HD
          go_wp2_with fail
          go_ret2
          exact ⟨by rw [hN.out]; rfl, bb _⟩
        have hD2 : Hid (((bl s).take (k + 1)).all isDig = true) := by unfold Hid; rw [hds.out, HD.out]; simp [isDig]; omega
        have h48 : (48 : Int) ≤ (s[k].toNat : Int) := by omega
        have hV2 : Hid ((valD ((bl s).take (k + 1)) : Int) = 10 * (valD ((bl s).take k) : Int) + ((s[k].toNat : Int) - 48)) := by unfold Hid; rw [hvs.out]; omega
        clear hds hvs hdn HD
        go_wp2_with fail
        go_round
        case rel => exact ⟨k + 1, by omega, by go_num, by rw [hV2.out]; first | rfl | (go_num; done) | (congr 1; omega), hD2⟩
        case measure => simp [intOf]; omega
      · obtain rfl : k = s.size := by omega
        have HA := HD.out
        rw [bl_take_all s _ (Nat.le_refl _)] at HA hv9 ⊢
        have hN : numB (bl s) = if Lib.itoa ((valD (bl s) : Int)) == bl s then ((valD (bl s) : Int), true) else (0, false) := by rw [hR.out, hq6.out, HA]; rfl
        generalize valD (bl s) = V at hN hv9 ⊢
        obtain ⟨qq, hqq⟩ : ∃ qq, (Lib.itoa ((V : Int)) == bl s) = qq := ⟨_, rfl⟩
        rw [hqq] at hN
        have hq' : (Lib.itoa ((V : Int)) != bl s) = !qq := by rw [← hqq]; rfl
        replace hN := Lib.hid hN
        clear HA HD hR
        have hlt2 : ¬ (s.size : Int) < (s.size : Int) := by omega
        cases qq
        all_goals
          simp only [Bool.not_true, Bool.not_false] at hq'
          go_wp2_with fail
          refine (l1Num_any _ _ (by omega) (by omega)).mono ?_
          rintro e w2 ⟨rfl, hb2⟩
          go_wp2_with fail
          go_ret2
          exact ⟨by rw [hN.out]; rfl, hb2⟩
  by_cases h45 : s[0].toNat = 45
  case neg =>
    have hneg : negB (bl s) = false := by
      unfold negB
      have : (bl s).head? = some s[0] := by rw [List.head?_eq_getElem?, List.getElem?_eq_getElem (by rw [bl_length]; omega), bl_get s 0 (by omega)]
      rw [this]
      simp only [Bool.and_eq_false_iff, Option.map_some, beq_eq_false_iff_ne, ne_eq, Option.some.injEq]
      right; simpa using h45
    have hR := Lib.hid (numB_atP (l := bl s) (m := bl s) (v := (valD (bl s) : Int)) (by unfold magB; rw [hneg]; rfl) (by unfold sgnV magB; rw [hneg]; rfl) (bl_length _))
    obtain ⟨q6, hq6⟩ : ∃ q, inB ((bl s).length : Int) 1 6 = q := ⟨_, rfl⟩
    rw [bl_length] at hq6
    replace hq6 := Lib.hid hq6
    have hsz : (1 : Int) < (s.size : Int) := by omega
    have h0 : 0 < s.size := by omega
    have h45' : ((s[0].toNat : Int) == 45) = false := by rw [beq_eq_false_iff_ne]; omega
    clear hneg h45
    go_enter Tryd.func24, Tryd.ntmps24
    go_wp2_with fail
    refine (l1In_any _ _ _ _).mono ?_
    rintro e w1 ⟨rfl, rfl⟩
    rw [show inB (s.size : Int) 1 6 = q6 from hq6.out]
    cases q6
    · have hN : Hid (numB (bl s) = (0, false)) := by unfold Hid; rw [hR.out, hq6.out]; rfl
      go_wp2_with fail
      go_ret2
      exact ⟨by rw [hN.out]; rfl, bb _⟩
    have hT6 : s.size ≤ 6 := by have := (inB_true.1 hq6.out).2; omega
    go_wp2_with fail
    go_loop [5, 6] (fun z i => ∃ k : Nat, k ≤ s.size ∧ i = .int .i64 k ∧ z = .int .i64 (valD ((bl s).take k)) ∧ Hid (((bl s).take k).all isDig = true)) (fun _ i => s.size - (intOf i).toNat)
    case atStart => exact ⟨0, Nat.zero_le _, rfl, rfl, by simp [Hid]⟩
    case round =>
      obtain ⟨k, hk, rfl, rfl, HD⟩ := hrel
      have hv9 := val_smallP (l := bl s) (k := k) (by omega) HD.out
      by_cases hlt : k < s.size
      · have hkl : k < (bl s).length := by rw [bl_length]; exact hlt
        have hge : (bl s)[k] = s[k] := bl_get s k hlt
        have hds := Lib.hid (dig_stepP hkl)
        have hvs := Lib.hid (val_stepP hkl)
        have hdn := Lib.hid (@dig_noP (bl s) k hkl)
        rw [hge] at hds hvs hdn
        have hc256 := s[k].toNat_lt
        clear hge
        by_cases h1 : (s[k].toNat : Int) < 48
        · have hN : Hid (numB (bl s) = (0, false)) := by unfold Hid; rw [hR.out, hdn.out (by simp [isDig]; omega), Bool.and_false, Bool.false_and]; rfl
          clear hds hvs hdn HD
          go_wp2_with fail
          go_ret2
          exact ⟨by rw [hN.out]; rfl, bb _⟩
        by_cases h2 : (57 : Int) < (s[k].toNat : Int)
        · have hN : Hid (numB (bl s) = (0, false)) := by unfold Hid; rw [hR.out, hdn.out (by simp [isDig]; omega), Bool.and_false, Bool.false_and]; rfl
          clear hds hvs hdn HD
          go_wp2_with fail
          go_ret2
          exact ⟨by rw [hN.out]; rfl, bb _⟩
        have hD2 : Hid (((bl s).take (k + 1)).all isDig = true) := by unfold Hid; rw [hds.out, HD.out]; simp [isDig]; omega
        have h48 : (48 : Int) ≤ (s[k].toNat : Int) := by omega
        have hV2 : Hid ((valD ((bl s).take (k + 1)) : Int) = 10 * (valD ((bl s).take k) : Int) + ((s[k].toNat : Int) - 48)) := by unfold Hid; rw [hvs.out]; omega
        clear hds hvs hdn HD
        go_wp2_with fail
        go_round
        case rel => exact ⟨k + 1, by omega, by go_num, by rw [hV2.out]; first | rfl | (go_num; done) | (congr 1; omega), hD2⟩
        case measure => simp [intOf]; omega
      · obtain rfl : k = s.size := by omega
        have HA := HD.out
        rw [bl_take_all s _ (Nat.le_refl _)] at HA hv9 ⊢
        have hN : numB (bl s) = if Lib.itoa ((valD (bl s) : Int)) == bl s then ((valD (bl s) : Int), true) else (0, false) := by rw [hR.out, hq6.out, HA]; rfl
        generalize valD (bl s) = V at hN hv9 ⊢
        obtain ⟨qq, hqq⟩ : ∃ qq, (Lib.itoa ((V : Int)) == bl s) = qq := ⟨_, rfl⟩
        rw [hqq] at hN
        have hq' : (Lib.itoa ((V : Int)) != bl s) = !qq := by rw [← hqq]; rfl
        replace hN := Lib.hid hN
        clear HA HD hR
        have hlt2 : ¬ (s.size : Int) < (s.size : Int) := by omega
        cases qq
        all_goals
          simp only [Bool.not_true, Bool.not_false] at hq'
          go_wp2_with fail
          refine (l1Num_any _ _ (by omega) (by omega)).mono ?_
          rintro e w2 ⟨rfl, hb2⟩
          go_wp2_with fail
          go_ret2
          exact ⟨by rw [hN.out]; rfl, hb2⟩
  have hneg : negB (bl s) = true := by
    unfold negB
    have : (bl s).head? = some s[0] := by rw [List.head?_eq_getElem?, List.getElem?_eq_getElem (by rw [bl_length]; omega), bl_get s 0 (by omega)]
    rw [this, bl_length, decide_eq_true h1s]
    simp [h45]
  obtain ⟨T, hT⟩ : ∃ T, s.extract 1 s.size = T := ⟨_, rfl⟩
  have hTb : (bl s).tail = bl T := by rw [← hT, bl_extract, List.take_of_length_le (by rw [List.length_drop, bl_length]; omega), List.drop_one]
  have hTs : T.size + 1 = s.size := by have h := congrArg List.length hTb; rw [List.length_tail, bl_length, bl_length] at h; omega
  have hR := Lib.hid (numB_atP (l := bl s) (m := bl T) (v := -(valD (bl T) : Int)) (by unfold magB; rw [hneg, ← hTb]; rfl) (by unfold sgnV magB; rw [hneg, ← hTb]; rfl) (bl_length _))
  obtain ⟨q6, hq6⟩ : ∃ q, inB ((bl T).length : Int) 1 6 = q := ⟨_, rfl⟩
  rw [bl_length] at hq6
  replace hq6 := Lib.hid hq6
  have hsz : (1 : Int) < (s.size : Int) := by omega
  have h0 : 0 < s.size := by omega
  have h45' : ((s[0].toNat : Int) == 45) = true := by rw [beq_iff_eq]; omega
  have hTs2 : T.size < s.size := by omega
  replace hTs := Lib.hid hTs
  clear hneg h45 hTb
  go_enter Tryd.func24, Tryd.ntmps24
  go_wp2_with fail
  refine (l1In_any _ _ _ _).mono ?_
  rintro e w1 ⟨rfl, rfl⟩
  rw [show inB (T.size : Int) 1 6 = q6 from hq6.out]
  cases q6
  · have hN : Hid (numB (bl s) = (0, false)) := by unfold Hid; rw [hR.out, hq6.out]; rfl
    go_wp2_with fail
    go_ret2
    exact ⟨by rw [hN.out]; rfl, bb _⟩
  have hT6 : T.size ≤ 6 := by have := (inB_true.1 hq6.out).2; omega
  go_wp2_with fail
  go_loop [5, 6] (fun z i => ∃ k : Nat, k ≤ T.size ∧ i = .int .i64 k ∧ z = .int .i64 (valD ((bl T).take k)) ∧ Hid (((bl T).take k).all isDig = true)) (fun _ i => T.size - (intOf i).toNat)
  case atStart => exact ⟨0, Nat.zero_le _, rfl, rfl, by simp [Hid]⟩
  case round =>
    obtain ⟨k, hk, rfl, rfl, HD⟩ := hrel
    have hv9 := val_smallP (l := bl T) (k := k) (by omega) HD.out
    by_cases hlt : k < T.size
    · have hkl : k < (bl T).length := by rw [bl_length]; exact hlt
      have hge : (bl T)[k] = T[k] := bl_get T k hlt
      have hds := Lib.hid (dig_stepP hkl)
      have hvs := Lib.hid (val_stepP hkl)
      have hdn := Lib.hid (@dig_noP (bl T) k hkl)
      rw [hge] at hds hvs hdn
      have hc256 := T[k].toNat_lt
      clear hge
      by_cases h1 : (T[k].toNat : Int) < 48
      · have hN : Hid (numB (bl s) = (0, false)) := by unfold Hid; rw [hR.out, hdn.out (by simp [isDig]; omega), Bool.and_false, Bool.false_and]; rfl
        clear hds hvs hdn HD
        go_wp2_with fail
        go_ret2
        exact ⟨by rw [hN.out]; rfl, bb _⟩
      by_cases h2 : (57 : Int) < (T[k].toNat : Int)
      · have hN : Hid (numB (bl s) = (0, false)) := by unfold Hid; rw [hR.out, hdn.out (by simp [isDig]; omega), Bool.and_false, Bool.false_and]; rfl
        clear hds hvs hdn HD
        go_wp2_with fail
        go_ret2
        exact ⟨by rw [hN.out]; rfl, bb _⟩
      have hD2 : Hid (((bl T).take (k + 1)).all isDig = true) := by unfold Hid; rw [hds.out, HD.out]; simp [isDig]; omega
      have h48 : (48 : Int) ≤ (T[k].toNat : Int) := by omega
      have hV2 : Hid ((valD ((bl T).take (k + 1)) : Int) = 10 * (valD ((bl T).take k) : Int) + ((T[k].toNat : Int) - 48)) := by unfold Hid; rw [hvs.out]; omega
      clear hds hvs hdn HD
      go_wp2_with fail
      go_round
      case rel => exact ⟨k + 1, by omega, by go_num, by rw [hV2.out]; first | rfl | (go_num; done) | (congr 1; omega), hD2⟩
      case measure => simp [intOf]; omega
    · obtain rfl : k = T.size := by omega
      have HA := HD.out
      rw [bl_take_all T _ (Nat.le_refl _)] at HA hv9 ⊢
      have hN : numB (bl s) = if Lib.itoa (-(valD (bl T) : Int)) == bl s then (-(valD (bl T) : Int), true) else (0, false) := by rw [hR.out, hq6.out, HA]; rfl
      generalize valD (bl T) = V at hN hv9 ⊢
      obtain ⟨qq, hqq⟩ : ∃ qq, (Lib.itoa (-(V : Int)) == bl s) = qq := ⟨_, rfl⟩
      rw [hqq] at hN
      have hq' : (Lib.itoa (-(V : Int)) != bl s) = !qq := by rw [← hqq]; rfl
      replace hN := Lib.hid hN
      clear HA HD hR
      have hlt2 : (T.size : Int) < (s.size : Int) := by omega
      cases qq
      all_goals
        simp only [Bool.not_true, Bool.not_false] at hq'
        go_wp2_with fail
        refine (l1Num_any _ _ (by omega) (by omega)).mono ?_
        rintro e w2 ⟨rfl, hb2⟩
        go_wp2_with fail
        go_ret2
        exact ⟨by rw [hN.out]; rfl, hb2⟩
end Go.Proofs.YtahbepajeplcmaaDoor

/- append onto an own row from any slice, empty or nil let in. No program in sight. -/
namespace Go.Proofs.YtahbepajeplcmaaDoor
open Go.RowKit

/-- A slice whose cells are these; a nil or empty one has none. -/
def Src (w : World) (A : Option Addr) (m size : Nat) (news : List Value) : Prop :=
  (m = 0 ∧ news = []) ∨ ∃ ad, A = some ad ∧ news.length = m * size ∧ ∀ j u, news[j]? = some u → w.cell? (ad.add j) = some u

section
variable {P : Program} {w : World} {t ty e : TypeId} {i : TypeInfo} {z : Value} {size bytes : Nat}
theorem run_append_src (ht : P.underlying t = some (.slice e)) (hi : P.info? e = some i) (hz : i.zero = some z) (hsize : i.size = size) (hby : i.bytes = bytes) (hzs : z.cells.size = size) (hsz : 0 < size)
    (v : Value) (n : Nat) (xs : List Value) (hown : w.ownsRow 0 e size v n xs) (A : Option Addr) (m c : Nat) (news : List Value) (hsrc : Src w A m size news) (h1 : ∀ u ∈ news, u.oneCell' = true)
    (h63 : n + m ≤ maxLen) (hbytes : (n + m) * bytes ≤ 140737488355328) :
    ∃ v' w', (Builtin.append_ #[t, t] ty #[v, .slice A m c]).run P w = .ok v' w' ∧ w'.ownsRow 0 e size v' (n + m) (xs ++ news) ∧ w.grownBy w' v.ownBlock ∧ (v'.ownBlock = v.ownBlock ∨ v'.ownBlock = some w.heap.size) := by
  rcases hsrc with ⟨rfl, rfl⟩ | ⟨ad, ha, hl, hn⟩
  · cases A with
    | some ad =>
      obtain ⟨v', w', h2, h3, h4, _, h5⟩ := run_append_own_at (P := P) w 0 t ty e i z size bytes ht hi hz hsize hby hzs hsz v n xs hown ad 0 c [] (by simp) (by simp) h1 h63 hbytes (Nat.zero_le _)
      exact ⟨v', w', h2, h3, h4, h5⟩
    | none =>
      refine ⟨v, w, ?_, by simpa using hown, World.grownBy.refl w _, .inl rfl⟩
      obtain ⟨_, ⟨rfl, rfl⟩ | ⟨g, cap, cur, rfl, _, _, hn, _⟩⟩ := hown
      · simp [Builtin.append_, run_underlying ht, sizeOf, typeInfo, hi, Builtin.lenOf, Builtin.firstCells]
      · simp [Builtin.append_, run_underlying ht, sizeOf, typeInfo, hi, Builtin.lenOf, Builtin.firstCells, hn, storeCells]
  · subst ha
    obtain ⟨v', w', h2, h3, h4, _, h5⟩ := run_append_own_at (P := P) w 0 t ty e i z size bytes ht hi hz hsize hby hzs hsz v n xs hown ad m c news hl hn h1 h63 hbytes (Nat.zero_le _)
    exact ⟨v', w', h2, h3, h4, h5⟩
theorem wp_append_src {o : Oper} {a : Act} {K : Act → World → Prop} {Q : Exit → Act → World → Prop} (s x : Operand)
    (ho : o.op = .call { callee := .builtin .append, args := #[s, x], argTypes := #[t, t] })
    (ht : P.underlying t = some (.slice e)) (hi : P.info? e = some i) (hz : i.zero = some z) (hsize : i.size = size) (hby : i.bytes = bytes) (hzs : z.cells.size = size) (hsz : 0 < size)
    (v : Value) (n : Nat) (xs : List Value) (hs : a.eval s = v) (hown : w.ownsRow 0 e size v n xs) (A : Option Addr) (m c : Nat) (news : List Value) (hx : a.eval x = .slice A m c) (hsrc : Src w A m size news) (h1 : ∀ u ∈ news, u.oneCell' = true)
    (h63 : n + m ≤ maxLen) (hbytes : (n + m) * bytes ≤ 140737488355328)
    (h : ∀ v' w', w'.ownsRow 0 e size v' (n + m) (xs ++ news) → w.grownBy w' v.ownBlock → (v'.ownBlock = v.ownBlock ∨ v'.ownBlock = some w.heap.size) → K (a.put o.dst v') w') : o.wp P a w K Q := by
  obtain ⟨v', w', hr, h2, h3, h4⟩ := run_append_src (P := P) (w := w) (ty := o.type) ht hi hz hsize hby hzs hsz v n xs hown A m c news hsrc h1 h63 hbytes
  unfold Oper.wp execOp
  simp only [ho, resolve, invoke, builtin, Sem.run_bind, Sem.run_pure, Result.andThen_ok, List.map_toArray, List.map_cons, List.map_nil, hs, hx, hr]
  exact h v' w' h2 h3 h4
theorem wpList_append_src {ops : Array Oper} {rest : List Oper} {o : Oper} {a : Act} {Q : Exit → Act → World → Prop} (hgd : o.guard = none) (s x : Operand)
    (ho : o.op = .call { callee := .builtin .append, args := #[s, x], argTypes := #[t, t] })
    (ht : P.underlying t = some (.slice e)) (hi : P.info? e = some i) (hz : i.zero = some z) (hsize : i.size = size) (hby : i.bytes = bytes) (hzs : z.cells.size = size) (hsz : 0 < size)
    (v : Value) (n : Nat) (xs : List Value) (hs : a.eval s = v) (hown : w.ownsRow 0 e size v n xs) (A : Option Addr) (m c : Nat) (news : List Value) (hx : a.eval x = .slice A m c) (hsrc : Src w A m size news) (h1 : ∀ u ∈ news, u.oneCell' = true)
    (h63 : n + m ≤ maxLen) (hbytes : (n + m) * bytes ≤ 140737488355328)
    (h : ∀ v' w', w'.ownsRow 0 e size v' (n + m) (xs ++ news) → w.grownBy w' v.ownBlock → (v'.ownBlock = v.ownBlock ∨ v'.ownBlock = some w.heap.size) → wpList P ops Q rest (a.put o.dst v') w') : wpList P ops Q (o :: rest) a w :=
  wpList_plain hgd fun _ hK => wp_append_src s x ho ht hi hz hsize hby hzs hsz v n xs hs hown A m c news hx hsrc h1 h63 hbytes fun v' w' h2 h3 h4 => hK _ _ (h v' w' h2 h3 h4)
theorem step_append_src {ops : Array Oper} {o : Oper} {a : Act} {K : Act → World → Prop} {Q : Exit → Act → World → Prop} {E : Prop} (hgd : o.guard = none) (s x : Operand)
    (ho : o.op = .call { callee := .builtin .append, args := #[s, x], argTypes := #[t, t] })
    (ht : P.underlying t = some (.slice e)) (hi : P.info? e = some i) (hz : i.zero = some z) (hsize : i.size = size) (hby : i.bytes = bytes) (hzs : z.cells.size = size) (hsz : 0 < size)
    (v : Value) (n : Nat) (xs : List Value) (hs : a.eval s = v) (hown : w.ownsRow 0 e size v n xs) (A : Option Addr) (m c : Nat) (news : List Value) (hx : a.eval x = .slice A m c) (hsrc : Src w A m size news) (h1 : ∀ u ∈ news, u.oneCell' = true)
    (h63 : n + m ≤ maxLen) (hbytes : (n + m) * bytes ≤ 140737488355328)
    (h : ∀ v' w', w'.ownsRow 0 e size v' (n + m) (xs ++ news) → w.grownBy w' v.ownBlock → (v'.ownBlock = v.ownBlock ∨ v'.ownBlock = some w.heap.size) → K (a.put o.dst v') w') :
    if Region.wanted o (yielded ops a.tmps) = true then Oper.wp P o a w K Q else E := by
  have hw : Region.wanted o (yielded ops a.tmps) = true := by simp [Region.wanted, hgd]
  rw [if_pos hw]
  exact wp_append_src s x ho ht hi hz hsize hby hzs hsz v n xs hs hown A m c news hx hsrc h1 h63 hbytes h
end

theorem add_none (b off j : Nat) : (⟨b, off, none⟩ : Addr).add j = ⟨b, off + j, none⟩ := by unfold Addr.add; split <;> simp_all
theorem Src.one {w : World} {b : Nat} {x : Value} (h : w.cell? ⟨b, 0, none⟩ = some x) : Src w (some ⟨b, 0, none⟩) 1 1 [x] :=
  .inr ⟨_, rfl, rfl, fun j u hj => by
    match j, hj with
    | 0, hj => simp at hj; subst hj; rw [add_none]; exact h⟩
theorem Src.keep {w w' : World} {A : Option Addr} {m size : Nat} {news : List Value} (h : Src w A m size news) (hk : ∀ a, A = some a → ∀ o u, w.cell? (a.add o) = some u → w'.cell? (a.add o) = some u) : Src w' A m size news := by
  rcases h with h | ⟨ad, rfl, h1, h2⟩
  · exact .inl h
  · exact .inr ⟨ad, rfl, h1, fun j u hj => hk _ rfl j u (h2 j u hj)⟩
theorem Src.grow {w w' : World} {A : Option Addr} {m size : Nat} {news : List Value} (h : Src w A m size news) (hb : Below w.heap.size w w') : Src w' A m size news :=
  h.keep fun _ _ _ _ hc => (hb.cell (World.block_lt_of_cell? _ _ hc)).trans hc
/-- A row as a source. -/
theorem row_src {α : Type} {T : Ty α} {wr : Bool} {w : World} {v : Value} {xs : List α} {F : List Nat} (h : T.row wr w v xs F) : ∃ A c cs G, v = .slice A xs.length c ∧ T.all wr w cs xs G ∧ Src w A xs.length T.size cs ∧ (∀ b ∈ G, b ∈ F) := by
  obtain ⟨a, cap, cs, G, rfl, h1, h2, hall, ⟨rfl, rfl⟩ | ⟨hs, hne, b, off, rfl, rfl, hc⟩⟩ := h
  · obtain ⟨rfl, rfl⟩ := hall
    exact ⟨a, cap, [], [], rfl, ⟨rfl, rfl⟩, .inl ⟨rfl, rfl⟩, by simp⟩
  · refine ⟨_, cap, cs, G, rfl, hall, .inr ⟨_, rfl, Ty.all_len hall, fun j u hj => ?_⟩, fun x hx => List.mem_cons_of_mem _ hx⟩
    have hjl := (List.getElem?_eq_some_iff.1 hj).1
    rw [add_none, (hc j hjl).1, ← List.getElem?_eq_getElem hjl, hj]
theorem row_src_int {wr : Bool} {w : World} {v : Value} {xs : List Int} {F : List Nat} (h : Ty.int.row wr w v xs F) : ∃ A c, v = .slice A xs.length c ∧ Src w A xs.length 1 (xs.map (.int .i64)) := by
  obtain ⟨A, c, cs, G, rfl, hall, hs, _⟩ := row_src h
  obtain ⟨rfl, _, _⟩ := Ty.all_int_inv hall
  exact ⟨A, c, rfl, hs⟩

/-- Where a slice from k on lies. -/
def cutA (A : Option Addr) (cap k size : Nat) : Option Addr := if cap = k then A else A.map (·.add (k * size))
section
variable {P : Program} {T e : TypeId} {i : TypeInfo} {size : Nat} {ρ : Operand → Value} {o : Oper} {x y : Operand} {A : Option Addr} {len cap k : Nat} {w : World}
theorem exec_slice_to (ho : o.op = .slice T x none (some y) none) (hx : ρ x = .slice A len cap) (hy : ρ y = .int .i64 k) (hT : P.underlying T = some (.slice e)) (hi : P.info? e = some i) (hk : k ≤ cap) :
    (execOp ρ o).run P w = .ok (.value (.slice A k cap)) w := by
  have hb : (Instr.sliceBounds true len cap none (some (.int .i64 k)) none).run P w = .ok (0, k, cap) w := by
    simp [Instr.sliceBounds, run_sliceBound (P := P) w .i64 (k : Int) cap .sliceAcap (by omega) (by omega)]
  have hA : (if cap = 0 then A else A.map (·.add 0)) = A := by
    split
    · rfl
    · cases A <;> simp [Addr.add]
  unfold execOp
  simp [ho, hx, hy, Instr.sliceAt, run_underlying hT, Instr.slice, hb, sizeOf, typeInfo, hi, hA]
theorem exec_slice_from (ho : o.op = .slice T x (some y) none none) (hx : ρ x = .slice A len cap) (hy : ρ y = .int .i64 k) (hT : P.underlying T = some (.slice e)) (hi : P.info? e = some i) (hs : i.size = size) (hk : k ≤ len) :
    (execOp ρ o).run P w = .ok (.value (.slice (cutA A cap k size) (len - k) (cap - k))) w := by
  have hb : (Instr.sliceBounds true len cap (some (.int .i64 k)) none none).run P w = .ok (k, len, cap) w := by
    simp [Instr.sliceBounds, run_sliceBound (P := P) w .i64 (k : Int) len .sliceB (by omega) (by omega)]
  subst hs
  unfold execOp cutA
  simp [ho, hx, hy, Instr.sliceAt, run_underlying hT, Instr.slice, hb, sizeOf, typeInfo, hi]
end
theorem Src.to {w : World} {A : Option Addr} {m size k : Nat} {news : List Value} (h : Src w A m size news) (hk : k ≤ m) : Src w A k size (news.take (k * size)) := by
  rcases h with ⟨rfl, rfl⟩ | ⟨ad, rfl, h1, h2⟩
  · exact .inl ⟨by omega, by simp⟩
  · refine .inr ⟨ad, rfl, ?_, fun j u hj => ?_⟩
    · rw [List.length_take, h1]
      have := Nat.mul_le_mul_right size hk
      omega
    · rw [List.getElem?_take] at hj
      split at hj
      · exact h2 j u hj
      · cases hj
theorem Src.from {w : World} {b off cap : Nat} {m size k : Nat} {news : List Value} (h : Src w (some ⟨b, off, none⟩) m size news) (hk : k ≤ m) (hm : m ≤ cap) : Src w (cutA (some ⟨b, off, none⟩) cap k size) (m - k) size (news.drop (k * size)) := by
  rcases h with ⟨rfl, rfl⟩ | ⟨ad, e, h1, h2⟩
  · exact .inl ⟨by omega, by simp⟩
  · cases e
    unfold cutA
    by_cases hc : cap = k
    · obtain rfl : m = k := by omega
      exact .inl ⟨by omega, by rw [List.drop_eq_nil_of_le (by omega)]⟩
    · rw [if_neg hc]
      refine .inr ⟨_, rfl, by rw [List.length_drop, h1, Nat.sub_mul], fun j u hj => ?_⟩
      rw [List.getElem?_drop] at hj
      have := h2 _ u hj
      rw [add_none] at this
      show w.cell? (((⟨b, off, none⟩ : Addr).add (k * size)).add j) = some u
      rw [add_none, add_none, Nat.add_assoc]
      exact this
theorem Src.from_nil {w : World} {m cap size k : Nat} {news : List Value} (h : Src w none m size news) (hk : k ≤ m) : Src w (cutA none cap k size) (m - k) size (news.drop (k * size)) := by
  rcases h with ⟨rfl, rfl⟩ | ⟨ad, e, _⟩
  · exact .inl ⟨by omega, by simp⟩
  · cases e
end Go.Proofs.YtahbepajeplcmaaDoor

/- Own rows: their blocks, stores into them, parts in front. -/
namespace Go.Proofs.YtahbepajeplcmaaDoor
open Go.RowKit

theorem owns_base {w : World} {B : Nat} {e : TypeId} {size : Nat} {v : Value} {n : Nat} {xs : List Value} (h : w.ownsRow 0 e size v n xs) (hB : ∀ g, v.ownBlock = some g → B ≤ g) : w.ownsRow B e size v n xs := by
  obtain ⟨hl, h | ⟨g, cap, cur, rfl, hg, r⟩⟩ := h
  · exact ⟨hl, .inl h⟩
  · exact ⟨hl, .inr ⟨g, cap, cur, rfl, hB g rfl, r⟩⟩
theorem owns_zero {w : World} {B : Nat} {e : TypeId} {size : Nat} {v : Value} {n : Nat} {xs : List Value} (h : w.ownsRow B e size v n xs) : w.ownsRow 0 e size v n xs := by
  obtain ⟨hl, h | ⟨g, cap, cur, rfl, hg, r⟩⟩ := h
  · exact ⟨hl, .inl h⟩
  · exact ⟨hl, .inr ⟨g, cap, cur, rfl, Nat.zero_le _, r⟩⟩
theorem owns_ge {w : World} {B : Nat} {e : TypeId} {size : Nat} {v : Value} {n : Nat} {xs : List Value} (h : w.ownsRow B e size v n xs) : ∀ g, v.ownBlock = some g → B ≤ g := by
  obtain ⟨hl, ⟨rfl, _⟩ | ⟨g, cap, cur, rfl, hg, r⟩⟩ := h
  · intro g hg; cases hg
  · intro g' hg'
    obtain rfl : g = g' := by simpa [Value.ownBlock] using hg'
    exact hg
/-- The row that a list of parts owns, at the end. -/
theorem Sp.owns_end {w0 w : World} {ps : List Asn} {i : Nat} {size n : Nat} {e : TypeId} {v : Value} {xs : List Value} (h : Sp w0 w ps) (hi : ps[i]? = some (Own e size v n xs)) : w.ownsRow w0.heap.size e size v n xs := by
  obtain ⟨F, ⟨rfl, h1⟩, h2⟩ := h.get hi
  exact owns_base h1 fun g hg => h2 g (by simp [hg])
theorem Sp.own_call {w0 w w' : World} {ps : List Asn} {size n : Nat} {e : TypeId} {v : Value} {xs : List Value} (h : Sp w0 w ps) (hb : Below w.heap.size w w') (ho : w'.ownsRow w.heap.size e size v n xs) : Sp w0 w' (Own e size v n xs :: ps) :=
  h.own_new hb (owns_zero ho) (owns_ge ho)
theorem sep_append : ∀ {qs ps : List Asn} {w : World} {F G : List Nat}, sep qs w F → sep ps w G → (∀ b ∈ F, b ∉ G) → sep (qs ++ ps) w (F ++ G)
  | [], ps, w, F, G, h, k, hd => by
    obtain rfl : F = [] := h
    exact k
  | q :: qs, ps, w, F, G, h, k, hd => by
    obtain ⟨F1, F2, rfl, h1, h2, h3⟩ := h
    refine ⟨F1, F2 ++ G, by rw [List.append_assoc], fun b hb hb2 => ?_, h2, sep_append h3 k fun b hb => hd b (List.mem_append.2 (.inr hb))⟩
    rcases List.mem_append.1 hb2 with h | h
    · exact h1 b hb h
    · exact hd b (List.mem_append.2 (.inl hb)) h
/-- Parts made by a call go in front. -/
theorem Sp.seq {w0 w w' : World} {ps qs : List Asn} (h : Sp w0 w ps) (k : Sp w w' qs) : Sp w0 w' (qs ++ ps) := by
  obtain ⟨h1, G, h2, h3⟩ := h
  obtain ⟨k1, F, k2, k3⟩ := k
  refine ⟨btr h1 k1, F ++ G, sep_append k2 (sep_keep h2 fun b hm => k1.block b (sep_lt h2 b hm)) (fun b hb hb2 => ?_), fun b hb => ?_⟩
  · have := k3 b hb; have := sep_lt h2 b hb2; omega
  · rcases List.mem_append.1 hb with h | h
    · have := k3 b h; have := h1.size; omega
    · exact h3 b h
theorem own_slice {w : World} {B : Nat} {e : TypeId} {size : Nat} {v : Value} {n : Nat} {xs : List Value} (h : w.ownsRow B e size v n xs) : ∃ a c, v = .slice a n c := by
  obtain ⟨_, ⟨rfl, rfl⟩ | ⟨g, cap, cur, rfl, _⟩⟩ := h
  · exact ⟨_, _, rfl⟩
  · exact ⟨_, _, rfl⟩
theorem own_from {w : World} {B : Nat} {e : TypeId} {size : Nat} {A : Option Addr} {n c : Nat} {k : Nat} {xs : List Value} (h : w.ownsRow B e size (.slice A n c) k xs) : ∀ a, A = some a → B ≤ a.block := by
  rintro a rfl
  exact owns_ge h a.block rfl
/-- An own row, told by its block. -/
theorem own_block {w : World} {B : Nat} {e : TypeId} {size : Nat} {v : Value} {n : Nat} {xs : List Value} (h : w.ownsRow B e size v n xs) (hn : 0 < n) :
    ∃ g cap cur, v = .slice (some ⟨g, 0, none⟩) n cap ∧ B ≤ g ∧ w.heap[g]? = some (.cells cur e (0, 0)) ∧ n ≤ cap ∧ cap ≤ maxLen ∧ cur.size = cap * size ∧ cur.toList.take (n * size) = xs := by
  obtain ⟨_, ⟨_, h0⟩ | h⟩ := h
  · omega
  · exact h
theorem own_at {w : World} {g : Nat} {cur : Array Value} {e : TypeId} {size n : Nat} {xs : List Value} (hh : w.heap[g]? = some (.cells cur e (0, 0))) (ht : cur.toList.take (n * size) = xs) {o : Nat} (ho : o < n * size) : w.cell? ⟨g, o, none⟩ = xs[o]? ∧ w.frozen? ⟨g, o, none⟩ = false :=
  ⟨hown_cell hh ht ho, by simp [World.frozen?, hh]⟩
/-- A store into an own row. -/
theorem Sp.own_put {w0 w : World} {ps : List Asn} {i g cap n size o : Nat} {e : TypeId} {xs : List Value} (h : Sp w0 w ps) (hi : ps[i]? = some (Own e size (.slice (some ⟨g, 0, none⟩) n cap) n xs)) (u : Value) (ho : o < n * size) :
    Sp w0 (w.setCell ⟨g, o, none⟩ u) (ps.set i (Own e size (.slice (some ⟨g, 0, none⟩) n cap) n (xs.set o u))) := by
  obtain ⟨F, ⟨rfl, hh⟩, hF, hall⟩ := h.upd hi
  have hlen := hh.1
  obtain ⟨g', cap', cur, e1, h0, hg, hn, hm, hc, ht⟩ := own_block hh (by
    rcases Nat.eq_zero_or_pos n with rfl | h
    · simp at ho
    · exact h)
  simp only [Value.slice.injEq, Option.some.injEq, Addr.mk.injEq] at e1
  obtain ⟨⟨rfl, _⟩, _, rfl⟩ := e1
  have hset : (w.setCell ⟨g, o, none⟩ u).heap[g]? = some (.cells (cur.setIfInBounds o u) e (0, 0)) := by
    simp [World.setCell, Array.getElem?_modify]
    exact ⟨_, hg, rfl⟩
  refine hall _ _ [g] ?_ ⟨rfl, by rw [List.length_set]; exact hlen, .inr ⟨g, cap, cur.setIfInBounds o u, rfl, Nat.zero_le _, hset, hn, hm, by rw [Array.size_setIfInBounds]; exact hc, ?_⟩⟩ fun b hb => .inl hb
  · exact ⟨rfl, rfl, rfl, by simp [World.setCell], fun k _ hn => Below.heap_setCell _ _ _ _ (by simpa [Value.ownBlock] using hn)⟩
  · rw [Array.toList_setIfInBounds, List.take_set, ht]
end Go.Proofs.YtahbepajeplcmaaDoor

/- Plain facts: a string split at a byte and joined again. No program in sight. -/
namespace Go.Proofs.YtahbepajeplcmaaDoor

theorem eqB_self (c : UInt8) : eqB c c.toNat = true := by rw [eqB_of]; simp
theorem eqB_inj {c d : UInt8} (h : eqB d c.toNat = true) : d = c := by rw [eqB_of] at h; simpa using h
theorem count_none {c : UInt8} : ∀ {l : List UInt8}, hasB l c.toNat = false → l.count c = 0
  | [], _ => rfl
  | d :: l, h => by
    rw [hasB_cons] at h
    have h1 : eqB d c.toNat = false := by cases e : eqB d c.toNat <;> simp_all
    have h2 : hasB l c.toNat = false := by cases e : hasB l c.toNat <;> simp_all
    rw [eqB_of] at h1
    rw [List.count_cons, count_none h2, h1]
    rfl
theorem splitK_one (c : UInt8) : ∀ (n : Nat) (l : List UInt8), l.length ≤ n → Lib.splitK [c] 0 (Lib.count l [c]) l = splitP c.toNat l := by
  intro n
  induction n with
  | zero =>
    intro l hl
    obtain rfl : l = [] := List.length_eq_zero_iff.1 (by omega)
    rw [Lib.count_one]; rfl
  | succ n ih =>
    intro l hl
    rcases cut_cases c.toNat l with h | ⟨x, d, y, rfl, h1, h2⟩
    · rw [Lib.count_one, count_none h, splitP_none h]; rfl
    · obtain rfl : d = c := eqB_inj h2
      have hc : Lib.count (x ++ d :: y) [d] = Lib.count y [d] + 1 := by
        rw [Lib.count_one, Lib.count_one, List.count_append, count_none h1, List.count_cons_self]; omega
      have hi : Lib.index (x ++ d :: y) [d] = x.length := by rw [Lib.index_one, index_some h1]
      rw [hc, splitP_some h1 h2, Lib.splitK, hi, if_neg (by rw [beq_iff_eq]; omega)]
      have ht : (x ++ d :: y).take (((x.length : Nat) : Int).toNat + 0) = x := by simp
      have hd : (x ++ d :: y).drop (((x.length : Nat) : Int).toNat + [d].length) = y := by
        rw [Int.toNat_natCast, List.length_singleton, List.drop_append, List.drop_of_length_le (by omega)]
        simp [show x.length + 1 - x.length = 1 by omega]
      rw [ht, hd, ih y (by simp at hl; omega)]

theorem joinTail_cons (sep x : List UInt8) (r : List (List UInt8)) : Lib.joinTail sep (x :: r) = sep ++ x ++ Lib.joinTail sep r := by simp [Lib.joinTail]
/-- The parts joined again are the string. -/
theorem join_split (c : UInt8) : ∀ l : List UInt8, Lib.join (splitP c.toNat l) [c] = l
  | [] => by rw [splitP, Lib.join_one]
  | d :: l => by
    have ih := join_split c l
    rw [splitP]
    obtain ⟨p, ps, hp⟩ := List.exists_cons_of_ne_nil (splitP_ne c.toNat l)
    rw [hp] at ih ⊢
    rw [Lib.join_cons] at ih
    split
    · rename_i h
      obtain rfl := eqB_inj h
      rw [Lib.join_cons, joinTail_cons, List.nil_append, List.append_assoc, ih]; rfl
    · simp only
      rw [Lib.join_cons, List.cons_append, ih]
/-- No part has the byte. -/
theorem split_has (b : Int) : ∀ l : List UInt8, ∀ p ∈ splitP b l, hasB p b = false
  | [] => by simp [splitP, hasB]
  | d :: l => by
    have ih := split_has b l
    obtain ⟨p, ps, hp⟩ := List.exists_cons_of_ne_nil (splitP_ne b l)
    rw [splitP, hp]
    rw [hp] at ih
    intro q hq
    split at hq
    · rcases List.mem_cons.1 hq with rfl | hq
      · rfl
      · exact ih q hq
    · rename_i h
      simp only at hq
      rcases List.mem_cons.1 hq with rfl | hq
      · rw [hasB_cons, ih p List.mem_cons_self, Bool.or_false]
        simpa using h
      · exact ih q (List.mem_cons_of_mem _ hq)
/-- Parts may be joined: none has the byte, the whole is short. -/
def fitJ (c : UInt8) (xs : List (List UInt8)) : Bool := !(xs.any fun x => hasB x c.toNat) && decide ((Lib.join xs [c]).length ≤ 4000)
/-- What JoinStrings gives. -/
def joinB (sep : List UInt8) (xs : List (List UInt8)) : List UInt8 × Bool :=
  match sep, xs with
  | [c], x :: r => if fitJ c (x :: r) then (Lib.join (x :: r) [c], true) else ([], false)
  | _, _ => ([], false)
theorem joinB_nil (sep : List UInt8) : joinB sep [] = ([], false) := by
  unfold joinB
  split
  · rename_i h; cases h
  · rfl
theorem joinB_sep {sep : List UInt8} (h : sep.length ≠ 1) (xs : List (List UInt8)) : joinB sep xs = ([], false) := by
  unfold joinB
  split
  · exact absurd rfl h
  · rfl
theorem joinB_one {c : UInt8} {xs : List (List UInt8)} (h : xs ≠ []) : joinB [c] xs = if fitJ c xs then (Lib.join xs [c], true) else ([], false) := by
  cases xs with
  | nil => exact absurd rfl h
  | cons x r => rfl
theorem join_back {c : UInt8} {l : List UInt8} (h : l.length ≤ 4000) : joinB [c] (splitP c.toNat l) = (l, true) := by
  rw [joinB_one (splitP_ne _ _), if_pos, join_split]
  unfold fitJ
  rw [join_split, decide_eq_true h, Bool.and_true, Bool.not_eq_true']
  rw [List.any_eq_false]
  intro p hp
  rw [split_has _ _ p hp]; simp
theorem join_snoc {xs : List (List UInt8)} (h : xs ≠ []) (y sep : List UInt8) : Lib.join (xs ++ [y]) sep = Lib.join xs sep ++ sep ++ y := by
  cases xs with
  | nil => exact absurd rfl h
  | cons x r =>
    rw [List.cons_append, Lib.join_cons, Lib.join_cons]
    simp [Lib.joinTail]
theorem join_len {xs : List (List UInt8)} (h : xs ≠ []) (c : UInt8) : (Lib.join xs [c]).length + 1 = xs.length + Lib.lens xs := by
  cases xs with
  | nil => exact absurd rfl h
  | cons x r => rw [Lib.join_length]; simp; omega
theorem join_take_le (c : UInt8) (xs : List (List UInt8)) (k : Nat) (hk : 0 < k) : (Lib.join (xs.take k) [c]).length ≤ (Lib.join xs [c]).length := by
  cases xs with
  | nil => simp
  | cons x r =>
    obtain ⟨j, rfl⟩ : ∃ j, k = j + 1 := ⟨k - 1, by omega⟩
    rw [List.take_succ_cons, Lib.join_cons, Lib.join_cons, List.length_append, List.length_append]
    have := Lib.joinTail_take_le [c] r j
    omega
theorem fit_no_has {c : UInt8} {xs : List (List UInt8)} {k : Nat} (hk : k < xs.length) (h : hasB xs[k] c.toNat = true) : fitJ c xs = false := by
  unfold fitJ
  have : (xs.any fun x => hasB x c.toNat) = true := List.any_eq_true.2 ⟨_, List.getElem_mem hk, h⟩
  rw [this]; rfl
theorem fit_no_len {c : UInt8} {xs : List (List UInt8)} {k : Nat} (hk : 0 < k) (h : 4000 < (Lib.join (xs.take k) [c]).length) : fitJ c xs = false := by
  unfold fitJ
  have := join_take_le c xs k hk
  rw [decide_eq_false (by omega), Bool.and_false]
theorem fit_yes {c : UInt8} {xs : List (List UInt8)} (h1 : (xs.any fun x => hasB x c.toNat) = false) (h2 : (Lib.join xs [c]).length ≤ 4000) : fitJ c xs = true := by
  unfold fitJ
  rw [h1, decide_eq_true h2]; rfl
theorem any_snoc {c : UInt8} {xs : List (List UInt8)} {k : Nat} (hk : k < xs.length) (h : ((xs.take k).any fun x => hasB x c.toNat) = false) (h1 : hasB xs[k] c.toNat = false) : ((xs.take (k + 1)).any fun x => hasB x c.toNat) = false := by
  rw [List.take_succ_eq_append_getElem hk, List.any_append, h]
  simp [h1]
end Go.Proofs.YtahbepajeplcmaaDoor

/- Contracts: words, and words read as numbers, in the program. -/
namespace Go.Proofs.YtahbepajeplcmaaDoor
open Go.RowKit

def numsOk (ps : List (List UInt8)) : Bool := ps.all fun p => (numB p).2
def numsV (ps : List (List UInt8)) : List Int := ps.map fun p => (numB p).1
theorem nums_step {ps : List (List UInt8)} {k : Nat} (hk : k < ps.length) (h : numsOk (ps.take k) = true) (hn : (numB ps[k]).2 = true) : numsOk (ps.take (k + 1)) = true ∧ numsV (ps.take (k + 1)) = numsV (ps.take k) ++ [(numB ps[k]).1] := by
  rw [List.take_succ_eq_append_getElem hk]
  unfold numsOk numsV at *
  refine ⟨by rw [List.all_append, h]; simp [hn], by rw [List.map_append]; rfl⟩
/-- Words in memory. -/
def WordsAt (w : World) (B : Nat) (xs : List ByteArray) : Prop := ∀ j (hj : j < xs.length), w.cell? ⟨B, j, none⟩ = some (.string xs[j])
theorem WordsAt.grow {w w' : World} {B : Nat} {xs : List ByteArray} (h : WordsAt w B xs) (hb : Below w.heap.size w w') : WordsAt w' B xs := fun j hj => (hb.cell (World.block_lt_of_cell? _ _ (h j hj))).trans (h j hj)
/-- strings.Split at one byte. -/
theorem split_any (s : ByteArray) (c : UInt8) (w : World) (hE : PEnv w) (hs : s.size ≤ 2000000) :
    Calls Tryd.prog 27 #[.string s, .string ⟨#[c]⟩] w fun e w' => ∃ (g : Nat) (xs : List ByteArray), e = .returned (.slice (some ⟨g, 0, none⟩) xs.length xs.length) ∧ xs.map bl = splitP c.toNat (bl s) ∧ WordsAt w' g xs ∧ Below w.heap.size w w' ∧ g = w.heap.size := by
  obtain ⟨m, hm⟩ := hE.maxlen
  obtain ⟨xs, hxs⟩ : ∃ xs, Lib.splitB ⟨#[c]⟩ 0 (Lib.countB s ⟨#[c]⟩) s = xs := ⟨_, rfl⟩
  have hlen : xs.length = Lib.countB s ⟨#[c]⟩ + 1 := by rw [← hxs]; exact Lib.splitB_all ⟨#[c]⟩ (Nat.le_refl 1) 0 _ _ rfl
  have hmap : xs.map bl = splitP c.toNat (bl s) := by
    rw [← hxs]
    have h := Lib.splitB_data ⟨#[c]⟩ 0 (Lib.countB s ⟨#[c]⟩) s
    have h1 := splitK_one c (bl s).length (bl s) (Nat.le_refl _)
    exact h.trans h1
  have hC := (Tryd.strings_Split s ⟨#[c]⟩ m w (by omega) hm (Nat.le_refl 1))
  rw [hxs, ← hlen] at hC
  refine hC.mono ?_
  rintro e w1 ⟨rfl, rfl⟩
  refine ⟨w.heap.size, xs, rfl, hmap, fun j hj => ?_, bal (bb _) _, rfl⟩
  have := heap_alloc_new w (.cells (xs.map Value.string).toArray 9)
  rw [cell_of_row _ _ _ _ _ _ this]
  simp [hj]

theorem infoIntL : (Tryd.prog.info? 3).map (fun i => (i.zero, i.size, i.bytes)) = some (some (.int .i64 0), 1, 8) := by kernel_rfl
def PIPost (ps : List (List UInt8)) (w : World) (e : Ending) (w' : World) : Prop :=
  (numsOk ps = true ∧ ∃ B c, e = .returned (.tuple #[.slice B ps.length c, .bool true]) ∧ Sp w w' [Own 3 1 (.slice B ps.length c) ps.length ((numsV ps).map (.int .i64))]) ∨
    (numsOk ps = false ∧ e = .returned (.tuple #[.slice none 0 0, .bool false]) ∧ Below w.heap.size w w')
theorem nums_not {ps : List (List UInt8)} {k : Nat} (hk : k < ps.length) (h : (numB ps[k]).2 = false) : numsOk ps = false := by
  unfold numsOk
  rw [List.all_eq_false]
  exact ⟨_, List.getElem_mem hk, by rw [h]; simp⟩
theorem numsV_len (ps : List (List UInt8)) : (numsV ps).length = ps.length := by unfold numsV; rw [List.length_map]

set_option maxRecDepth 100000 in
set_option maxHeartbeats 4000000 in
theorem parseInts_any (xs : List ByteArray) (g : Nat) (o cap : Nat) (w : World) (hE : PEnv w) (hx : ∀ j (hj : j < xs.length), w.cell? ⟨g, o + j, none⟩ = some (.string xs[j])) (hs : ∀ x ∈ xs, x.size ≤ 2000000) (hl : xs.length ≤ 2000000) :
    Calls Tryd.prog 29 #[.slice (some ⟨g, o, none⟩) xs.length cap] w (PIPost (xs.map bl) w) := by
  obtain ⟨i0, hi, hz0, hz1, hz2⟩ := info_parts infoIntL
  replace hE := Lib.hid hE
  replace hx := Lib.hid hx
  have hpl : (xs.map bl).length = xs.length := List.length_map _
  obtain ⟨ps, hps⟩ : ∃ ps, xs.map bl = ps := ⟨_, rfl⟩
  rw [hps] at hpl ⊢
  go_enter Tryd.func29, Tryd.ntmps29
  go_wp2_with (at_make; refine wpList_make_own _ rfl _ _ 57 rfl w.heap.size 3 i0 (.int .i64 0) 1 Tryd.underlying57 hi hz0 hz1 .i64 .i64 _ xs.length rfl rfl rfl ?m1 ?m2 ?m3 ?_)
  case m1 => rw [hz2]; omega
  case m2 => unfold maxLen; omega
  case m3 => exact Nat.le_refl _
  intro w1 hown hgrow
  have S1 : Hid (Sp w w1 [Own 3 1 (.slice (some ⟨w.heap.size, 0, none⟩) 0 xs.length) 0 []]) := (Sp.start w).own_call ((bb w).grown hgrow (Nat.le_refl _) (fun k hk => by cases hk)) hown
  clear hown hgrow
  go_wp2_with fail
  go_loopw [4, 14] (fun vo vi wr => ∃ (k : Nat) (B : Option Addr) (c : Nat) (zs : List Int), k ≤ xs.length ∧ zs.length = k ∧ vi = .int .i64 k ∧ vo = .slice B zs.length c ∧ Hid (numsOk (ps.take k) = true ∧ zs = numsV (ps.take k)) ∧ Hid (Sp w wr [Own 3 1 (.slice B zs.length c) zs.length (zs.map (.int .i64))])) (fun _ vi _ => xs.length - (intOf vi).toNat)
  case atStart => exact ⟨0, _, _, [], Nat.zero_le _, rfl, rfl, rfl, ⟨rfl, rfl⟩, S1⟩
  case round =>
    obtain ⟨k, B, c, zs, hk, hzl, rfl, rfl, HD, HS⟩ := hrel
    clear S1
    by_cases hlt : k < xs.length
    · have hkp : k < ps.length := by omega
      have m0 := (HS.out.below.cell (World.block_lt_of_cell? _ _ (hx.out k hlt))).trans (hx.out k hlt)
      have hsz := hs _ (List.getElem_mem hlt)
      have hpk : bl xs[k] = ps[k] := by simp only [← hps, List.getElem_map]
      have hcall := implParse_anyP xs[k] wr (hE.out.grow HS.out.below) hsz
      rw [hpk] at hcall
      have hst := nums_step hkp HD.out.1
      have hno := nums_not hkp
      generalize xs[k] = x at *
      generalize hzz : numB ps[k] = zz at *
      obtain ⟨z, q⟩ := zz
      dsimp only at hcall hst hno
      replace hcall := Lib.hid hcall
      replace hzl := Lib.hid hzl
      clear hpk hsz
      cases q
      · have hR := Lib.hid (hno rfl)
        clear hno hst
        go_wp2_with fail
        refine hcall.out.mono ?_
        rintro e w2 ⟨rfl, hb2⟩
        have hB := Lib.hid (HS.out.grow hb2).below
        clear hb2 HS hcall m0
        go_wp2_with fail
        go_ret2
        exact .inr ⟨hR.out, rfl, hB.out⟩
      · have hst2 := Lib.hid (hst rfl)
        clear hno hst
        go_wp2_with fail
        refine hcall.out.mono ?_
        rintro e w2 ⟨rfl, hb2⟩
        have S2 := (HS.out.grow hb2).alloc_box #[.int .i64 z] 3
        have kB := S2.cell (i := 0) rfl (o := 0) rfl
        replace S2 := Lib.hid S2
        clear hb2 HS hcall m0
        have hz6 : zs.length ≤ 2000000 := by have := hzl.out; omega
        go_wp2_with (at_builtin; refine wpList_append_src rfl _ _ rfl Tryd.underlying57 hi hz0 hz1 hz2 rfl (by decide) _ _ _ rfl (S2.out.own (i := 1) rfl) _ 1 1 [.int .i64 z] rfl (Src.one kB) (by simp [Value.oneCell']) ?c3 ?c4 ?_)
        case c3 => unfold maxLen; omega
        case c4 => omega
        intro vY wY hownY hgY hatY
        have S3 := (S2.out.own_push (i := 1) rfl (bb _) hownY hgY (by simpa using hatY)).tail
        obtain ⟨aY, cY, rfl⟩ := own_slice hownY
        have S4 : Hid (Sp w wY [Own 3 1 (.slice aY (zs ++ [z]).length cY) (zs ++ [z]).length ((zs ++ [z]).map (.int .i64))]) := by
          have e1 : (zs ++ [z]).length = zs.length + 1 := by simp
          unfold Hid
          rw [e1, List.map_append]
          exact S3
        have hlen : zs.length + 1 = (zs ++ [z]).length := by simp
        have HD2 : Hid (numsOk (ps.take (k + 1)) = true ∧ zs ++ [z] = numsV (ps.take (k + 1))) := ⟨hst2.out.1, by rw [hst2.out.2, HD.out.2]⟩
        have hzl2 : (zs ++ [z]).length = k + 1 := by rw [← hlen, hzl.out]
        clear S2 S3 kB hownY hgY hatY HD hst2
        rw [hlen]
        generalize zs ++ [z] = zs2 at *
        clear hlen hz6
        replace hzl2 := Lib.hid hzl2
        go_wp2_with fail
        go_roundw
        case rel => exact ⟨k + 1, aY, cY, zs2, by omega, hzl2.out, by go_num, rfl, HD2, S4⟩
        case measure => simp [intOf]; omega
    · obtain rfl : k = xs.length := by omega
      have htk : ps.take xs.length = ps := List.take_of_length_le (by omega)
      have hR := HD.out
      rw [htk] at hR
      have hf : Hid (∀ e, e = Ending.returned (.tuple #[.slice B zs.length c, .bool true]) → PIPost ps w e wr) := fun e he => by
        refine .inl ⟨hR.1, B, c, ?_, ?_⟩
        · rw [he, hzl, hpl]
        · have := HS.out
          rw [hzl, hR.2, ← hpl] at this
          exact this
      replace hzl := Lib.hid hzl
      clear HD HS hR
      go_wp2_with fail
      go_ret2
      exact hf.out _ rfl

end Go.Proofs.YtahbepajeplcmaaDoor

/- A law of the walk: a range over an iterator that keeps its state in a box of its own. No program in sight. -/
namespace Go.Proofs.YtahbepajeplcmaaDoor
open Go.RowKit

section
variable {F : Fence} {n : Nat} {P : Program}
/-- It stays when the block b is turned. -/
def StaysB {β : Type} (b : Nat) (J : β → World → Prop) : Prop := ∀ s W W', J s W → W.grownBy W' (some b) → J s W'
/-- What an iterator with a box b promises: it hands on some values, one after another; between them it turns its box alone. -/
def SeqBox {α : Type} (F : Fence) (n : Nat) (P : Program) (g : Nat) (lb : Array Value) (encs : α → Array Value) (b : Nat) (Kp : World → World → Prop) (S Z : List α → Prop) (N : Nat) (w : World) : Prop :=
  ∀ (l : Nat) (J Jx : List α → World → Prop) (W : World), Below w.heap.size w W → StaysB b J → StaysB b Jx →
    (∀ pre x W1, J pre W1 → pre.length < N → YieldAt F (n - 1) P l (encs x) W1 fun e W' => (e = .returned (.bool true) ∧ J (pre ++ [x]) W' ∧ Kp W1 W') ∨ (e = .returned (.bool false) ∧ Jx (pre ++ [x]) W')) →
    J [] W →
    CallsIn F n P g (#[.func (.yield l) #[] #[]] ++ lb) W fun e W' => (∃ v, e = .returned v) ∧ ((∃ xs, S xs ∧ J xs W') ∨ (∃ pre, Z pre ∧ Jx pre W'))

theorem block_stays {W W' : World} {b k : Nat} {o : Obj} (hg : W.grownBy W' (some b)) (hne : b ≠ k) (hk : W.heap[k]? = some o) : W'.heap[k]? = some o :=
  (hg.block k (Array.getElem?_eq_some_iff.1 hk).1 (fun e => hne (by cases e; rfl))).trans hk

theorem wpIn_rangeBox {α : Type} {g : Operand} {ps : Array Tmp} {assign body : Code} {Q : Exit → Act → World → Prop} {a : Act} {w : World} {gf b : Nat} {lb : Array Value} {encs : α → Array Value} {Kp : World → World → Prop} {S Z : List α → Prop} {N : Nat} {w0 : World}
    (hro : F.round = none) (h1 : 1 ≤ n) (hg : a.eval g = .func (.func gf) #[] lb) (hFg : F.fn gf) (eg : ∀ args w, (callFunc gf args).run P w = .ok (.enter gf args) w)
    (hb : b < w.heap.size) (hseq : SeqBox F (n - 1) P gf lb encs b Kp S Z N w0) (hb0 : Below w0.heap.size w0 w) (hps : ∀ x, (encs x).size = ps.size)
    (hKt : ∀ {A B C : World}, Kp A B → Kp B C → Kp A C) (hKb : ∀ (W : World) (l : Nat) (o o' : Obj), w.heap.size ≤ l → W.heap[l]? = some o → o.isCells = false → o.isWalk = false → Kp W (W.putObj l o'))
    (I : List α → World → Prop) (Ix : Code → List α → World → Prop) (hI : OwnFrom w.heap.size I) (hIx : ∀ c, OwnFrom w.heap.size (Ix c)) (hIb : StaysB b I) (hIxb : ∀ c, StaysB b (Ix c)) (h0 : I [] w) (a₁ : α → Act)
    (hassign : ∀ (l : Nat) (x : α) (W : World) (K : Act → World → Prop), K (a₁ x) W →
      assign.wpIn (F.inRound l) (n - 1 - 1) P (Exit.then K (fun _ _ _ => False)) { tmps := (ps.zip (encs x)).foldl (fun t (p, v) => t.setIfInBounds p v) a.tmps, defers := [] } W)
    (hbody : ∀ (l : Nat) (pre : List α) (x : α) (W : World), I pre W → pre.length < N → body.wpIn (F.inRound l) (n - 1 - 1) P (ownPostK Kp I Ix (pre ++ [x]) W) (a₁ x) W)
    (hdone : ∀ (D : Nat) (xs : List α) (W : World), w.heap.size ≤ D → S xs → I xs W → W.heap[D]? = some (.deferred (some [])) → Q .normal { a with defers := { target := .collected D, args := #[] } :: a.defers } W)
    (hstop : ∀ (D : Nat) (c : Code) (pre : List α) (W : World), w.heap.size ≤ D → Z pre → Ix c pre W → W.heap[D]? = some (.deferred (some [])) → c.wpIn F n P Q { a with defers := { target := .collected D, args := #[] } :: a.defers } W) :
    (Code.rangeFunc g ps assign body).wpIn F n P Q a w := by
  refine wpIn_rangeFunc fun fn hfn => ?_
  rw [hro]
  obtain ⟨m, hm⟩ : ∃ m, w.heap.size = m := ⟨_, rfl⟩
  obtain ⟨rec, hrec⟩ : ∃ rec : LoopState → Option Code → Loop, rec = fun st pe => { state := st, pending := pe, fn, tmps := a.tmps, params := ps, assign, body, defers := m } := ⟨_, rfl⟩
  obtain ⟨W1, hW1⟩ : ∃ W1, (w.alloc (.deferred (some []))).alloc (.loop (rec .ready none)) = W1 := ⟨_, rfl⟩
  have hL : W1.heap[m + 1]? = some (.loop (rec .ready none)) := by
    have h := World.alloc_heap_new (w.alloc (.deferred (some []))) (.loop (rec .ready none))
    rw [World.size_alloc, hm] at h
    rw [← hW1]; exact h
  have hD : W1.heap[m]? = some (.deferred (some [])) := by
    rw [← hW1, ← hm]; exact (Below.heap_alloc _ _ _ (by simp)).trans (World.alloc_heap_new w _)
  have hI1 : I [] W1 := hW1 ▸ hI.alloc _ (hI.alloc _ h0)
  have hb1 : Below w0.heap.size w0 W1 := hW1 ▸ hb0.trans ((((Below.refl _ w).alloc (Nat.le_refl _) _).alloc (by simp) _).mono hb0.size)
  refine ⟨m + 1, [{ target := .collected m, args := #[] }], W1, { target := .fn (.func gf) lb, args := #[.func (.yield (m + 1)) #[] #[]] }, W1, gf, #[.func (.yield (m + 1)) #[] #[]] ++ lb, W1, ?_, ?_, ?_, ?_, fun _ => h1, ?_⟩
  · rw [← hW1, hrec, ← hm]; exact run_enterLoop_outer _ _ _ _ _
  · simp only [resolve, hg]
    simp [go_sem]
  · intro f' hf'
    simp [Target.leads] at hf'
    exact hf' ▸ hFg
  · simp [invoke, go_sem, eg]
  have hstay : ∀ {β : Type} (J : β → World → Prop) (st : LoopState) (pe : Option Code), StaysB b J → StaysB b (fun s W => J s W ∧ W.heap[m + 1]? = some (.loop (rec st pe)) ∧ W.heap[m]? = some (.deferred (some []))) := fun J st pe hJ s W W' h hg' =>
    ⟨hJ s W W' h.1 hg', block_stays hg' (by omega) h.2.1, block_stays hg' (by omega) h.2.2⟩
  refine (hseq (m + 1) (fun pre W => I pre W ∧ W.heap[m + 1]? = some (.loop (rec .ready none)) ∧ W.heap[m]? = some (.deferred (some [])))
    (fun pre W => ∃ c, Ix c pre W ∧ W.heap[m + 1]? = some (.loop (rec .done (some c))) ∧ W.heap[m]? = some (.deferred (some []))) W1 hb1 (hstay I _ _ hIb)
    (fun s W W' h hg' => by obtain ⟨c, h⟩ := h; exact ⟨c, hstay (Ix c) _ _ (hIxb c) s W W' h hg'⟩) ?_ ⟨hI1, hL, hD⟩).mono ?_
  · rintro pre x W ⟨hi, hl, hk⟩ hN
    obtain ⟨W2, hW2⟩ : ∃ W2, W.putObj (m + 1) (.loop { rec .ready none with state := .busy }) = W2 := ⟨_, rfl⟩
    have hy := run_yield (P := P) (args := encs x) hl (by rw [hrec]; exact hps x)
    rw [hrec] at hy
    refine ⟨fn, _, assign, body, hy, roundIn_of_wpIn hfn (hassign _ x W _ ⟨_, run_beginRound hl (by rw [hrec]), ?_⟩)⟩
    have hl2 : W2.heap[m + 1]? = some (.loop { rec .ready none with state := .busy }) := hW2 ▸ World.putObj_heap_same (Array.getElem?_eq_some_iff.1 hl).1
    have hk2 : W2.heap[m]? = some (.deferred (some [])) := hW2 ▸ (World.putObj_heap_other (by omega)).trans hk
    have hp2 : Kp W W2 := hW2 ▸ hKb _ _ _ _ (by omega) hl rfl rfl
    have hi2 : I pre W2 := hW2 ▸ hI.putObj _ hi (by omega) hl rfl
    have hend : ∀ (j : Option Code) (W3 : World), KeepsOthers W2 W3 → W3.heap[m + 1]? = some (.loop { rec .ready none with state := .busy }) ∧
        ∃ W4, (Instr.endRound (m + 1) j).run P W3 = .ok (.bool j.isNone) W4 ∧ W4 = W3.putObj (m + 1) (.loop (rec (if j.isNone then .ready else .done) j)) ∧ W4.heap[m + 1]? = some (.loop (rec (if j.isNone then .ready else .done) j)) ∧ W4.heap[m]? = some (.deferred (some [])) := fun j W3 h3 => by
      have hl3 := h3.same _ _ hl2 rfl
      refine ⟨hl3, _, ?_, rfl, World.putObj_heap_same (Array.getElem?_eq_some_iff.1 hl3).1, (World.putObj_heap_other (by omega)).trans (h3.same _ _ hk2 rfl)⟩
      have := run_endRound (P := P) j hl3
      rw [hrec] at this ⊢
      exact this
    have hgo : ∀ (c : Code) (W3 : World), KeepsOthers W2 W3 → Ix c (pre ++ [x]) W3 → ∃ v W4, (Instr.endRound (m + 1) (some c)).run P W3 = .ok v W4 ∧
        (((Ending.returned v = .returned (.bool true)) ∧ (I (pre ++ [x]) W4 ∧ W4.heap[m + 1]? = some (.loop (rec .ready none)) ∧ W4.heap[m]? = some (.deferred (some []))) ∧ Kp W W4) ∨
          (Ending.returned v = .returned (.bool false) ∧ ∃ c, Ix c (pre ++ [x]) W4 ∧ W4.heap[m + 1]? = some (.loop (rec .done (some c))) ∧ W4.heap[m]? = some (.deferred (some [])))) := fun c W3 h3 hx => by
      obtain ⟨hl3, W4, hr, e4, hl4, hk4⟩ := hend (some c) W3 h3
      exact ⟨_, W4, hr, .inr ⟨rfl, c, e4 ▸ (hIx c).putObj _ hx (by omega) hl3 rfl, hl4, hk4⟩⟩
    rw [hW2]
    refine wpIn_mono (hbody _ pre x _ hi2 hN) ?_
    rintro e a3 W3 hp
    cases e with
    | normal =>
      obtain ⟨h3, hkp, hi3⟩ := hp
      obtain ⟨hl3, W4, hr, e4, hl4, hk4⟩ := hend none W3 h3
      exact ⟨_, W4, hr, .inl ⟨rfl, ⟨e4 ▸ hI.putObj _ hi3 (by omega) hl3 rfl, hl4, hk4⟩, hKt (hKt hp2 hkp) (e4 ▸ hKb _ _ _ _ (by omega) hl3 rfl rfl)⟩⟩
    | ret => exact hgo .ret W3 hp.1 hp.2
    | exit id => exact hgo (.exit id) W3 hp.1 hp.2
    | goto t => exact hgo (.goto t) W3 hp.1 hp.2
    | panic ch => exact hp.elim
    | outgrown => exact hp.elim
  · rintro e W2 ⟨⟨v, rfl⟩, (⟨xs, hS, hi, hl, hk⟩ | ⟨pre, hZ, c, hi, hl, hk⟩)⟩
    · have hr := run_endLoop (P := P) hl (by rw [hrec]; simp)
      rw [hrec] at hr
      exact ⟨none, _, hr, hdone m xs _ (by omega) hS (hI.putObj _ hi (by omega) hl rfl) ((World.putObj_heap_other (by omega)).trans hk)⟩
    · have hr := run_endLoop (P := P) hl (by rw [hrec]; simp)
      rw [hrec] at hr
      exact ⟨some c, _, hr, hstop m c pre _ (by omega) hZ ((hIx c).putObj _ hi (by omega) hl rfl) ((World.putObj_heap_other (by omega)).trans hk)⟩
end
end Go.Proofs.YtahbepajeplcmaaDoor

/- Memory in parts, within a range over an iterator that turns a box of its own. No program in sight. -/
namespace Go.Proofs.YtahbepajeplcmaaDoor
open Go.RowKit

/-- The blocks of a part are cells. -/
def Cellish (q : Asn) : Prop := ∀ w F, q.p w F → ∀ b ∈ F, ∀ o, w.heap[b]? = some o → o.isCells = true
theorem cellish_box (b : Nat) (t : TypeId) (cs : Array Value) : Cellish (Box b t cs) := by
  rintro w F ⟨rfl, h⟩ b' hb o ho
  obtain rfl : b' = b := by simpa using hb
  rw [h] at ho; cases ho; rfl
theorem cellish_own (e : TypeId) (size : Nat) (v : Value) (n : Nat) (xs : List Value) : Cellish (Own e size v n xs) := by
  rintro w F ⟨rfl, -, ⟨rfl, -⟩ | ⟨g, cap, cur, rfl, -, hh, -⟩⟩ b hb o ho
  · simp [Value.ownBlock] at hb
  · obtain rfl : b = g := by simpa [Value.ownBlock] using hb
    rw [hh] at ho; cases ho; rfl
theorem sep_cellish {w : World} : ∀ {ps : List Asn} {F : List Nat}, sep ps w F → (∀ q ∈ ps, Cellish q) → ∀ b ∈ F, ∀ o, w.heap[b]? = some o → o.isCells = true
  | [], _, h, _ => by subst h; simp
  | q :: ps, _, h, hq => by
    obtain ⟨F1, F2, rfl, _, h1, h2⟩ := h
    intro b hb o ho
    rcases List.mem_append.1 hb with hb | hb
    · exact hq q (by simp) w F1 h1 b hb o ho
    · exact sep_cellish h2 (fun x hx => hq x (by simp [hx])) b hb o ho
theorem Sp.turn {w0 A B : World} {ps : List Asn} {row : Option Nat} (h : Sp w0 A ps) (hq : ∀ q ∈ ps, Cellish q) (hg : A.grownBy B row) (hr : ∀ r, row = some r → w0.heap.size ≤ r ∧ ∃ o : Obj, A.heap[r]? = some o ∧ o.isCells = false) : Sp w0 B ps := by
  obtain ⟨h1, F, h2, h3⟩ := h
  refine ⟨h1.grown hg h1.size (fun k e => by have := (hr k e).1; omega), F, sep_keep h2 fun b hb => hg.block b (sep_lt h2 b hb) (fun e => ?_), h3⟩
  obtain ⟨-, o, ho, hc⟩ := hr b e.symm
  have := sep_cellish h2 hq b hb o ho
  rw [hc] at this; exact absurd this (by decide)
theorem keeps_below {W W' : World} (h : Below W.heap.size W W') : KeepsOthers W W' := ⟨h.size, fun k _ hk _ => (h.block k (Array.getElem?_eq_some_iff.1 hk).1).trans hk⟩
theorem own_cells {w : World} {B : Nat} {e : TypeId} {size : Nat} {v : Value} {n : Nat} {xs : List Value} (h : w.ownsRow B e size v n xs) : ∀ (j : Nat) (o : Obj), v.ownBlock = some j → (w.heap[j]? = some o) → o.isCells = true := by
  intro j o hj ho
  obtain ⟨-, ⟨rfl, -⟩ | ⟨g, cap, cur, rfl, -, hh, -⟩⟩ := h
  · simp [Value.ownBlock] at hj
  · obtain rfl : g = j := by simpa [Value.ownBlock] using hj
    rw [hh] at ho
    cases ho
    rfl

/-- A block, whatever it holds. -/
def Blk (b : Nat) (o : Obj) : Asn where
  p w F := F = [b] ∧ w.heap[b]? = some o
  lt := by
    rintro w F ⟨rfl, h⟩ b' hb
    obtain rfl : b' = b := by simpa using hb
    exact (Array.getElem?_eq_some_iff.1 h).1
  keep := by
    rintro w w' F ⟨rfl, h⟩ hk
    exact ⟨rfl, (hk b (by simp)).trans h⟩
/-- Parts among which a block b is not. -/
def SpN (b : Nat) (w0 W : World) (ps : List Asn) : Prop := w0.heap.size ≤ b ∧ b < W.heap.size ∧ Below w0.heap.size w0 W ∧ ∃ F, sep ps W F ∧ (∀ c ∈ F, w0.heap.size ≤ c) ∧ b ∉ F
theorem SpN.sp {b : Nat} {w0 W : World} {ps : List Asn} (h : SpN b w0 W ps) : Sp w0 W ps := by
  obtain ⟨_, _, h1, F, h2, h3, _⟩ := h
  exact ⟨h1, F, h2, h3⟩
theorem SpN.blk {b : Nat} {w0 W : World} {ps : List Asn} (h : SpN b w0 W ps) : ∃ o, W.heap[b]? = some o ∧ Sp w0 W (Blk b o :: ps) := by
  obtain ⟨h0, h4, h1, F, h2, h3, h5⟩ := h
  refine ⟨W.heap[b], Array.getElem?_eq_getElem h4, h1, [b] ++ F, ⟨[b], F, rfl, fun c hc hF => ?_, ⟨rfl, Array.getElem?_eq_getElem h4⟩, h2⟩, fun c hc => ?_⟩
  · obtain rfl : c = b := by simpa using hc
    exact h5 hF
  · rcases List.mem_append.1 hc with hc | hc
    · obtain rfl : c = b := by simpa using hc
      exact h0
    · exact h3 c hc
theorem Sp.off {b : Nat} {w0 W : World} {ps : List Asn} {o : Obj} (h : Sp w0 W (Blk b o :: ps)) : SpN b w0 W ps ∧ W.heap[b]? = some o := by
  obtain ⟨h1, F, ⟨F1, F2, rfl, hd, ⟨rfl, hq⟩, h2⟩, h3⟩ := h
  exact ⟨⟨h3 b (by simp), (Array.getElem?_eq_some_iff.1 hq).1, h1, F2, h2, fun c hc => h3 c (by simp [hc]), hd b (by simp)⟩, hq⟩
theorem Sp.box_off {b : Nat} {t : TypeId} {cs : Array Value} {w0 W : World} {ps : List Asn} (h : Sp w0 W (Box b t cs :: ps)) : SpN b w0 W ps := by
  obtain ⟨h1, F, ⟨F1, F2, rfl, hd, ⟨rfl, hq⟩, h2⟩, h3⟩ := h
  exact ⟨h3 b (by simp), (Array.getElem?_eq_some_iff.1 hq).1, h1, F2, h2, fun c hc => h3 c (by simp [hc]), hd b (by simp)⟩
theorem SpN.stay {b : Nat} {w0 W W' : World} {ps : List Asn} (h : SpN b w0 W ps) (hg : W.grownBy W' (some b)) : SpN b w0 W' ps := by
  obtain ⟨h0, h4, h1, F, h2, h3, h5⟩ := h
  refine ⟨h0, Nat.lt_of_lt_of_le h4 hg.size, h1.grown hg h1.size (fun k e => by cases e; exact h0), F, sep_keep h2 fun c hc => hg.block c (sep_lt h2 c hc) (fun e => by cases e; exact h5 hc), h3, h5⟩
theorem SpN.turn {b : Nat} {w0 A B : World} {ps : List Asn} {row : Option Nat} (h : SpN b w0 A ps) (hq : ∀ q ∈ ps, Cellish q) (hg : A.grownBy B row) (hr : ∀ r, row = some r → w0.heap.size ≤ r ∧ ∃ o : Obj, A.heap[r]? = some o ∧ o.isCells = false) : SpN b w0 B ps := by
  obtain ⟨h0, h4, h1, F, h2, h3, h5⟩ := h
  refine ⟨h0, Nat.lt_of_lt_of_le h4 hg.size, h1.grown hg h1.size (fun k e => by have := (hr k e).1; omega), F, sep_keep h2 fun c hc => hg.block c (sep_lt h2 c hc) (fun e => ?_), h3, h5⟩
  obtain ⟨-, o, ho, hc'⟩ := hr c e.symm
  have := sep_cellish h2 hq c hc o ho
  rw [hc'] at this; exact absurd this (by decide)
theorem spN_ownFrom {β : Type} {b : Nat} {w0 : World} (B : Nat) (hB : w0.heap.size ≤ B) (I : β → World → Prop) (hI : ∀ s W, I s W → ∃ ps, SpN b w0 W ps ∧ (∀ q ∈ ps, Cellish q) ∧ ∀ W', SpN b w0 W' ps → I s W') : OwnFrom B I := by
  intro s W W' row hs hg hr
  obtain ⟨ps, h1, h2, h3⟩ := hI s W hs
  exact h3 W' (h1.turn h2 hg fun r e => ⟨Nat.le_trans hB (hr r e).1, (hr r e).2⟩)
theorem spN_stays {β : Type} {b : Nat} {w0 : World} (I : β → World → Prop) (hI : ∀ s W, I s W → ∃ ps, SpN b w0 W ps ∧ ∀ W', SpN b w0 W' ps → I s W') : StaysB b I := by
  intro s W W' hs hg
  obtain ⟨ps, h1, h3⟩ := hI s W hs
  exact h3 W' (h1.stay hg)
/-- The box is as it was. -/
def KeepO (b : Nat) (W W' : World) : Prop := W'.heap[b]? = W.heap[b]?
theorem keepO_t {b : Nat} {A B C : World} (h1 : KeepO b A B) (h2 : KeepO b B C) : KeepO b A C := Eq.trans h2 h1
theorem keepO_b {b : Nat} {w : World} (hb : b < w.heap.size) (W : World) (l : Nat) (o o' : Obj) (hl : w.heap.size ≤ l) (_ : W.heap[l]? = some o) (_ : o.isCells = false) (_ : o.isWalk = false) : KeepO b W (W.putObj l o') := World.putObj_heap_other (by omega)
end Go.Proofs.YtahbepajeplcmaaDoor

/- Contract: strings.Lines, as an iterator. -/
namespace Go.Proofs.YtahbepajeplcmaaDoor
open Go.RowKit Go.Shelf

attribute [local go_sem] Oper.semAt_some

/-- A line: a string that is not too long. -/
abbrev Ln := {x : ByteArray // x.size ≤ 2000000}
def lnB (x : Ln) : List UInt8 := bl x.val
def lnEncs (x : Ln) : Array Value := #[.string x.val]
theorem linesB_ne : ∀ {l : List UInt8}, l ≠ [] → linesB l ≠ []
  | [], h => absurd rfl h
  | c :: l, _ => by
    unfold linesB
    split
    · simp
    · cases linesB l <;> simp
theorem linesB_len : ∀ l : List UInt8, (linesB l).length ≤ l.length
  | [] => Nat.le_refl _
  | c :: l => by
    have ih := linesB_len l
    unfold linesB
    split
    · simp only [List.length_cons]; omega
    · cases h : linesB l with
      | nil => simp
      | cons p ps => rw [h] at ih; simp only [List.length_cons] at ih ⊢; omega
/-- The size of the string in a box. -/
def sizeB (b : Nat) (w : World) : Nat := match w.cell? ⟨b, 0, none⟩ with
  | some (.string r) => r.size
  | _ => 0
theorem below_stays {b : Nat} {W W' : World} (h : Below W.heap.size W W') : W.grownBy W' (some b) := ⟨h.os, h.tape, h.output, h.size, fun k hk _ => h.block k hk⟩
/-- What is left of a text. -/
def LeftR (s : List UInt8) (pre : List Ln) (r : List UInt8) : Prop := linesB s = pre.map lnB ++ linesB r
theorem LeftR.len {s : List UInt8} {pre : List Ln} {r : List UInt8} (h : LeftR s pre r) (hr : r ≠ []) : pre.length < s.length := by
  have h1 := linesB_len s
  have h2 := congrArg List.length h
  have h3 := List.length_pos_iff.2 (linesB_ne hr)
  rw [List.length_append, List.length_map] at h2
  omega
theorem LeftR.some {s : List UInt8} {pre : List Ln} {x y : List UInt8} {c : UInt8} {p : Ln} (h : LeftR s pre (x ++ c :: y)) (h1 : hasB x 10 = false) (h2 : eqB c 10 = true) (hp : lnB p = x ++ [c]) : LeftR s (pre ++ [p]) y := by
  unfold LeftR at *
  rw [h, linesB_some h1 h2, List.map_append, List.map_cons, List.map_nil, hp, List.append_assoc]; rfl
theorem LeftR.none {s : List UInt8} {pre : List Ln} {r : List UInt8} {p : Ln} (h : LeftR s pre r) (h1 : hasB r 10 = false) (hr : r ≠ []) (hp : lnB p = r) : LeftR s (pre ++ [p]) [] := by
  unfold LeftR at *
  rw [h, linesB_none h1 hr, List.map_append, List.map_cons, List.map_nil, hp, List.append_assoc]; rfl
theorem lines_extract_left {r : ByteArray} {x y : List UInt8} {c : UInt8} (h : bl r = x ++ c :: y) : bl (r.extract 0 (x.length + 1)) = x ++ [c] ∧ bl (r.extract (x.length + 1) r.size) = y ∧ x.length + 1 ≤ r.size := by
  have hl := congrArg List.length h
  rw [bl_length] at hl
  simp only [List.length_append, List.length_cons] at hl
  refine ⟨?_, ?_, by omega⟩
  · rw [bl_extract, h]
    simp [List.take_append]
    exact List.take_of_length_le (by omega)
  · rw [bl_extract, h, List.drop_append]
    simp only [List.drop_length_add_append, List.drop_eq_nil_of_le (show x.length ≤ x.length + 1 by omega), List.nil_append, show x.length + 1 - x.length = 1 by omega, List.drop_succ_cons, List.drop_zero]
    exact List.take_of_length_le (by omega)

set_option maxRecDepth 100000 in
set_option maxHeartbeats 4000000 in
theorem lines1_seq (s : ByteArray) (hs : s.size ≤ 2000000) (Bs : Nat) (w0 : World) (hb : w0.heap[Bs]? = some (.cells #[.string s] 9 (0, 0))) :
    SeqBox Fence.wide 9 Tryd.prog 43 #[.pointer (some ⟨Bs, 0, none⟩)] lnEncs Bs (KeepO Bs) (fun xs => linesB (bl s) = xs.map lnB) (fun pre => ∃ t, linesB (bl s) = pre.map lnB ++ t) 2000000 w0 := by
  intro l J Jx W hW hJ hJx hY h0
  have hBW : Boxed W Bs 9 (.string s) := (hW.block Bs (Array.getElem?_eq_some_iff.1 hb).1).trans hb
  refine callsIn_of_wp Tryd.func43 rfl trivial ?_ rfl
  simp only [Tryd.ntmps43, List.size_toArray, List.length_cons, List.length_nil, Nat.reduceAdd, Nat.reduceSub, Array.replicate_succ, Array.replicate_zero, List.push_toArray, List.append_toArray, List.nil_append, List.cons_append]
  gi_wp2
  gi_loopw [3, 4] (fun _ _ wr => ∃ (pre : List Ln) (r : ByteArray), Boxed wr Bs 9 (.string r) ∧ Hid (J pre wr) ∧ Hid (LeftR (bl s) pre (bl r)) ∧ r.size ≤ s.size) (fun _ _ wr => sizeB Bs wr)
  case atStart => exact ⟨[], s, hBW, h0, rfl, Nat.le_refl _⟩
  case round =>
    obtain ⟨pre, r, hB, hJs, hL, hrs⟩ := hrel
    have c0 := hB.cell
    have f0 := hB.frozen
    replace hY := Lib.hid hY
    clear hb hBW h0 hW
    by_cases hz : (0 : Int) < (r.size : Int)
    · have hrne : bl r ≠ [] := fun e => by
        have h9 : r.size = 0 := by have h8 := congrArg List.length e; rwa [bl_length] at h8
        omega
      have hpl := hL.out.len hrne
      rw [bl_length] at hpl
      rcases cut_cases 10 (bl r) with hn | ⟨x, c, y, hxy, hx, hc⟩
      · have hI : Lib.indexByte r.data.toList (Int.toNat 10).toUInt8 = -1 := index_none (b := 10) hn
        have hJ2 := hJ _ _ _ hJs.out (grownBy_setCell' wr Bs (.string ⟨#[]⟩))
        have hB2 := hB.set (.string ⟨#[]⟩)
        have hln : lnB ⟨r, by omega⟩ = bl r := rfl
        have hL2 := hL.out.none hn hrne hln
        obtain ⟨fn, tmps, assign, body, hy, hR⟩ := hY.out pre ⟨r, by omega⟩ _ hJ2 (by omega)
        unfold lnEncs at hy
        dsimp only at hy
        have hms : sizeB Bs wr = r.size := by unfold sizeB; rw [c0]
        replace hL2 := Lib.hid hL2
        replace hB2 := Lib.hid hB2
        replace hms := Lib.hid hms
        clear hJ2 hL
        gi_wp2_with (refine ⟨trivial, ?_⟩; gi_at_call 44; refine (callsIn_wide.2 (Tryd.strings_IndexByte r 10 _)).mono ?_; rintro e w' ⟨rfl, rfl⟩; rw [hI])
        refine hR.mono ?_
        rintro e W3 (⟨rfl, hJ3, hk3⟩ | ⟨rfl, hJx3⟩)
        · have hB3 : Boxed W3 Bs 9 (.string ⟨#[]⟩) := Eq.trans hk3 hB2.out
          gi_wp2
          go_roundw
          case rel => exact ⟨_, ⟨#[]⟩, hB3, hJ3, hL2.out, Nat.zero_le _⟩
          case measure =>
            rw [hms.out]
            unfold sizeB
            rw [hB3.cell]
            show (0 : Nat) < r.size
            omega
        · gi_wp2
          refine bodyPost_ret (results_none rfl _ _ _) rfl ?_
          exact ⟨⟨_, rfl⟩, .inr ⟨_, ⟨_, hL2.out⟩, hJx3⟩⟩
      · obtain ⟨e1, e2, e3⟩ := lines_extract_left hxy
        have hcn : c = 10 := by
          have := eqB_of c 10
          rw [show (((10 : UInt8).toNat : Nat) : Int) = 10 from rfl, hc] at this
          exact (beq_iff_eq.1 this.symm)
        have hI : Lib.indexByte r.data.toList (Int.toNat 10).toUInt8 = (x.length : Int) := by
          show Lib.indexByte (bl r) 10 = _
          rw [hxy, hcn]; exact index_some hx
        obtain ⟨k, hk⟩ : ∃ k, x.length = k := ⟨_, rfl⟩
        rw [hk] at e1 e2 e3 hI
        obtain ⟨m, hm⟩ : ∃ m, k + 1 = m := ⟨_, rfl⟩
        have hw1 : IntKind.i64.wrap ((k : Int) + 1) = (m : Int) := by rw [show (k : Int) + 1 = m by omega]; exact IntWalk.i64_in _ (by omega)
        have h0m : (0 : Int) ≤ (m : Int) := by omega
        have hmr : (m : Int) ≤ (r.size : Int) := by omega
        rw [hm] at e1 e2 e3
        have hk1 : (r.extract 0 m).size ≤ 2000000 := by
          have := congrArg List.length e1
          rw [bl_length, List.length_append, List.length_singleton, hk] at this
          omega
        have hJ2 := hJ _ _ _ (hJ _ _ _ hJs.out (grownBy_setCell' wr Bs (.string (r.extract m r.size)))) (below_stays (bdr (bb _)))
        have hB2 := (show Boxed (wr.setCell ⟨Bs, 0, none⟩ (.string (r.extract m r.size))).drew Bs 9 (.string (r.extract m r.size)) from hB.set (.string (r.extract m r.size)))
        have hln : lnB ⟨r.extract 0 m, hk1⟩ = x ++ [c] := e1
        have hL1 := hL.out
        rw [hxy] at hL1
        have hL2 := hL1.some hx hc hln
        have hsz2 : (r.extract m r.size).size < r.size := by
          rw [ByteArray.size_extract]; omega
        rw [← e2] at hL2
        obtain ⟨fn, tmps, assign, body, hy, hR⟩ := hY.out pre ⟨r.extract 0 m, hk1⟩ _ hJ2 (by omega)
        unfold lnEncs at hy
        dsimp only at hy
        have hms : sizeB Bs wr = r.size := by unfold sizeB; rw [c0]
        have h0k : (0 : Int) ≤ (k : Int) := by omega
        replace hL2 := Lib.hid hL2
        replace hB2 := Lib.hid hB2
        replace hms := Lib.hid hms
        replace hsz2 := Lib.hid hsz2
        replace hk := Lib.hid hk
        replace hm := Lib.hid hm
        clear hJ2 hL hL1 hxy e1 e2 hln hx hc hcn
        gi_upto_region 4 with (refine ⟨trivial, ?_⟩; gi_at_call 44; refine (callsIn_wide.2 (Tryd.strings_IndexByte r 10 _)).mono ?_; rintro e w' ⟨rfl, rfl⟩; rw [hI])
        refine wpIn_wide.2 ?_
        refine wp_region_tail_lit (S := (fun w' => w'.cell? ⟨Bs, 0, none⟩ = some (.string r))) 9 [false, false, false, false, false, false, false, false, false, false] (by kernel_rfl) (by kernel_rfl) (by kernel_rfl) ?_ ?_
        · exact c0
        intro hSc
        (refine walkT_take (i := 0) (v := ?_) rfl (by kernel_rfl) (by decide) (by kernel_rfl) (by kernel_rfl) (fun _ _ _ h => h) (Or.inl ⟨by rfl, ?_⟩) (by assumption) ?_; rotate_left; (focus (intro w hSw; (try dsimp only at hSw); go_simp; (try with_reducible rfl); done)); (try simp only [put_rules]))
        (refine walkT_take (i := 1) (v := ?_) rfl (by kernel_rfl) (by decide) (by kernel_rfl) (by kernel_rfl) (fun _ _ _ h => h) (Or.inl ⟨by rfl, ?_⟩) (by assumption) ?_; rotate_left; (focus (intro w hSw; (try dsimp only at hSw); go_simp; (try with_reducible rfl); done)); (try simp only [put_rules]))
        (refine walkT_take (i := 2) (v := ?_) rfl (by kernel_rfl) (by decide) (by kernel_rfl) (by kernel_rfl) (fun _ _ _ h => h) (Or.inl ⟨by rfl, ?_⟩) (by assumption) ?_; rotate_left; (focus (intro w hSw; (try dsimp only at hSw); go_simp; (try with_reducible rfl); done)); (try simp only [put_rules]))
        (refine walkT_take (i := 3) (v := ?_) rfl (by kernel_rfl) (by decide) (by kernel_rfl) (by kernel_rfl) (fun _ _ _ h => h) (Or.inl ⟨by rfl, ?_⟩) (by assumption) ?_; rotate_left; (focus (intro w hSw; (try dsimp only at hSw); go_simp; (try with_reducible rfl); done)); (try simp only [put_rules]))
        (refine walkT_take (i := 4) (v := ?_) rfl (by kernel_rfl) (by decide) (by kernel_rfl) (by kernel_rfl) (fun _ _ _ h => h) (Or.inl ⟨by rfl, ?_⟩) (by assumption) ?_; rotate_left; (focus (intro w hSw; (try dsimp only at hSw); go_simp; (try with_reducible rfl); done)); (try simp only [put_rules]))
        (refine walkT_take (i := 5) (v := ?_) rfl (by kernel_rfl) (by decide) (by kernel_rfl) (by kernel_rfl) (fun _ _ _ h => h) (Or.inl ⟨by rfl, ?_⟩) (by assumption) ?_; rotate_left; (focus (intro w hSw; (try dsimp only at hSw); go_simp; (try with_reducible rfl); done)); (try simp only [put_rules]))
        (refine walkT_take (i := 6) (v := ?_) rfl (by kernel_rfl) (by decide) (by kernel_rfl) (by kernel_rfl) (fun _ _ _ h => h) (Or.inl ⟨by rfl, ?_⟩) (by assumption) ?_; rotate_left; (focus (intro w hSw; (try dsimp only at hSw); go_simp; (try with_reducible rfl); done)); (try simp only [put_rules]))
        (refine walkT_take (i := 7) (v := ?_) rfl (by kernel_rfl) (by decide) (by kernel_rfl) (by kernel_rfl) (fun _ _ _ h => h) (Or.inl ⟨by rfl, ?_⟩) (by assumption) ?_; rotate_left; (focus (intro w hSw; (try dsimp only at hSw); go_simp; (try with_reducible rfl); done)); (try simp only [put_rules]))
        (refine walkT_take (i := 8) (v := ?_) rfl (by kernel_rfl) (by decide) (by kernel_rfl) (by kernel_rfl) (fun _ _ _ h => h) (Or.inl ⟨by rfl, ?_⟩) (by assumption) ?_; rotate_left; (focus (intro w hSw; (try dsimp only at hSw); go_simp; (try with_reducible rfl); done)); (try simp only [put_rules]))
        (refine walkT_done (by kernel_rfl) ?_)
        go_wp2_with fail
        clear hSc
        gi_wp2
        refine hR.mono ?_
        rintro e W3 (⟨rfl, hJ3, hk3⟩ | ⟨rfl, hJx3⟩)
        · have hB3 : Boxed W3 Bs 9 (.string (r.extract m r.size)) := Eq.trans hk3 hB2.out
          gi_wp2
          go_roundw
          case rel => exact ⟨_, _, hB3, hJ3, hL2.out, by have := hsz2.out; omega⟩
          case measure =>
            rw [hms.out]
            unfold sizeB
            rw [hB3.cell]
            exact hsz2.out
        · gi_wp2
          refine bodyPost_ret (results_none rfl _ _ _) rfl ?_
          exact ⟨⟨_, rfl⟩, .inr ⟨_, ⟨_, hL2.out⟩, hJx3⟩⟩
    · obtain rfl : r = ByteArray.empty := by
        apply bl_inj
        have : (bl r).length = 0 := by rw [bl_length]; omega
        rw [List.length_eq_zero_iff.1 this]; rfl
      gi_wp2
      go_end0
      have hL3 : linesB (bl s) = pre.map lnB := by
        have := hL.out
        unfold LeftR at this
        rw [this]
        exact List.append_nil _
      first | exact ⟨⟨_, rfl⟩, .inl ⟨_, hL3, hJs.out⟩⟩ | (refine ⟨⟨_, rfl⟩, ?_⟩; simp; exact .inl ⟨_, hL3, hJs.out⟩)

set_option maxHeartbeats 1000000 in
/-- strings.Lines: the string is boxed; the function value captures the box. -/
theorem lines_any (s : ByteArray) (w : World) :
    Calls Tryd.prog 26 #[.string s] w fun e w' => e = .returned (.func (.func 43) #[] #[.pointer (some ⟨w.heap.size, 0, none⟩)]) ∧ w' = w.alloc (.cells #[.string s] 9) := by
  go_enter Tryd.func26, Tryd.ntmps26
  go_wp2_with fail
  go_ret
  exact ⟨rfl, rfl⟩
end Go.Proofs.YtahbepajeplcmaaDoor

/- A drawn region inside a round, walked as outside of one. No program in sight. -/
namespace Go.Proofs.YtahbepajeplcmaaDoor

section
variable {n l : Nat} {P : Program} {Q : Exit → Act → World → Prop}
/-- No operation defers a call. -/
def noDefer (ops : Array Oper) : Bool := ops.all fun o => match o.op with | .defer _ => false | _ => true
theorem op_in_round {o : Oper} {a : Act} {w : World} {K : Act → World → Prop} (hd : ∀ c, o.op ≠ .defer c) (h : o.wp P a w K Q) : o.wpIn (Fence.wide.inRound l) n P a w K Q := by
  unfold Oper.wpIn
  refine ⟨fun f _ => trivial, ?_⟩
  rw [Oper.semAt_eq _ _ _ hd]
  unfold Oper.wp at h
  generalize (execOp a.eval o).run P w = r at *
  cases r with
  | ok x w' =>
    cases x <;> simp only [Oper.upon, Oper.uponIn] at h ⊢
    case value v => exact h
    case skip => exact h
    case defer d => exact h
    case enter f args => exact ⟨fun e => (by cases e), CallsIn.inRound l (callsIn_wide.2 h)⟩
    case row row args => exact ⟨fun e => (by cases e), fun c cs _ => let ⟨v, w1, r, s⟩ := h c cs; ⟨v, w1, r, stepsIn_wide.2 s⟩⟩
  | halt x w' => cases x <;> simp only [Oper.upon, Oper.uponIn] at h ⊢; exact h
theorem wpOp_in_round {ops : Array Oper} (hd : noDefer ops = true) (hQ : ¬ LetsOut Q) {i : Nat} {a : Act} {w : World} {K : Act → World → Prop} (h : wpOp P ops Q i K a w) : wpOpIn (Fence.wide.inRound l) n P ops Q i K a w := by
  unfold wpOp at h
  unfold wpOpIn
  cases ho : ops[i]? with
  | none => rw [ho] at h; exact h
  | some o =>
    rw [ho] at h
    simp only at h ⊢
    split
    · rename_i hw
      rw [if_pos hw] at h
      refine op_in_round (fun c hc => ?_) (h.resolve_right fun e => hQ e.2)
      unfold noDefer at hd
      rw [Array.all_eq_true'] at hd
      have := hd o (Array.mem_of_getElem? ho)
      rw [hc] at this
      cases this
    · rename_i hw
      rw [if_neg hw] at h
      exact ⟨fun _ _ => trivial, h⟩
theorem wpAny_in_round {md : Region.Mode} {ops : Array Oper} (hd : noDefer ops = true) (hQ : ¬ LetsOut Q) : ∀ (f : Nat) (s : Array Bool) (a : Act) (w : World), wpAny P md ops Q f s a w → wpAnyIn (Fence.wide.inRound l) n P md ops Q f s a w
  | 0, _, _, _, h => h
  | f + 1, _, _, _, h => ⟨h.1, fun i hi => wpOpIn_mono (fun a' w' h' => wpAny_in_round hd hQ f _ a' w' h') (wpOp_in_round hd hQ (h.2 i hi))⟩
theorem wpIn_round_held_lit {S : World → Prop} {id : Nat} {a : Act} {w : World} {ops : List Oper} (N : Nat) (s0 : List Bool) (hN : ops.length = N) (hs : Array.replicate ops.toArray.size false = s0.toArray)
    (hd : noDefer ops.toArray = true) (hm : P.follows .mixedOrders = true) (hQ : ¬ LetsOut Q) (hS : S w.drew) (h : S w.drew → wpAnyH P .any ops.toArray Q S N s0.toArray a w.drew) : (Code.region id ops.toArray true).wpIn (Fence.wide.inRound l) n P Q a w := by
  refine wpIn_region_any hm (wpAny_in_round hd hQ _ _ _ _ ?_)
  have := wpAny_of_held _ _ _ _ (h hS)
  rw [hs, List.size_toArray, hN]
  exact this
theorem any_of_tail {S : World → Prop} {a : Act} {w : World} {ops : List Oper} (n : Nat) (hok : tailOk .any ops.toArray n = true) (hS : S w.drew)
    (h : S w.drew → walkT P .any ops.toArray Q S n (tailL P ops.toArray Q n (ops.drop n)) n (Array.replicate ops.toArray.size false) a w.drew) : wpAny P .any ops.toArray Q ops.toArray.size (Array.replicate ops.toArray.size false) a w.drew := by
  have hn : n < ops.length := by simp only [tailOk, Bool.and_eq_true, decide_eq_true_eq] at hok; simpa using hok.1.1.2
  have inv0 : HeadInv .any ops.toArray n (Array.replicate ops.toArray.size false) :=
    ⟨by simp, fun j oj _ hl => (by rw [getD_replicate_false] at hl; cases hl), fun t _ ht => getD_in (by simpa using ht) (getD_replicate_false _ _)⟩
  have hdl : (ops.drop n).length = ops.toArray.size - n := by simp
  have H2 := any_of_headH (Q := Q) (g := ops.toArray.size - n) (fun s a' w' hL => by
    have := wpAny_of_seq (md := .any) (Q' := Q) (ops.drop n) n s a' w' (fun j => by simp [List.getElem?_drop]) hL.1 hL.2
    rwa [hdl] at this) _ _ _ _ (h hS inv0)
  rw [show n + (ops.toArray.size - n) = ops.toArray.size by simp; omega] at H2
  exact H2
theorem wpIn_round_tail_lit {S : World → Prop} {id : Nat} {a : Act} {w : World} {ops : List Oper} (n0 : Nat) (s0 : List Bool) (hs : Array.replicate ops.toArray.size false = s0.toArray)
    (hd : noDefer ops.toArray = true) (hm : P.follows .mixedOrders = true) (hok : tailOk .any ops.toArray n0 = true) (hQ : ¬ LetsOut Q) (hS : S w.drew)
    (h : S w.drew → walkT P .any ops.toArray Q S n0 (tailL P ops.toArray Q n0 (ops.drop n0)) n0 s0.toArray a w.drew) : (Code.region id ops.toArray true).wpIn (Fence.wide.inRound l) n P Q a w := by
  refine wpIn_region_any hm (wpAny_in_round hd hQ _ _ _ _ ?_)
  refine any_of_tail (S := S) n0 hok hS fun hS' => ?_
  rw [hs]
  exact h hS'
end
end Go.Proofs.YtahbepajeplcmaaDoor
