/- Lemmas and contracts for a law, put together out of several texts: TnB FlatC LtB LtC TnA LtD CxB CxC. -/
import Derived.Test.YtahbepajeplcmaaGreatDoorMg5
import Derived.Test.YtahbepajeplcmaaGreatDoorMg1
import Derived.Test.YtahbepajeplcmaaGreatDoorShelf
import Derived.Lib.SmallJoins
import Derived.Test.YtahbepajeplcmaaGreatDoorMg2
import Derived.OwnWalk
import Derived.Laws.OwnMore
import Derived.Test.YtahbepajeplcmaaGreatDoorMg3
import Derived.Laws.AppendOwn
import Derived.Test.YtahbepajeplcmaaGreatDoorMg4
/- Contracts: numbers read from their texts, on both sides. Printed by gen_txt.py. -/
namespace Go.Proofs.YtahbepajeplcmaaGreatDoor
open Go.RowKit

/-- What the calls of the library need of the world: its variable MaxLen holds a number, the table of powers of ten holds them. -/
structure Env (w : World) : Prop where
  maxlen : ∃ m : Int, w.cell? ⟨1, 0, none⟩ = some (.int .i64 m)
  pow : Lib.TabIs Tryz.prog w "internal/strconv.uint64pow10" .u64 Lib.pow10Tab
  low : 1 < w.heap.size ∧ 2 < w.heap.size
theorem globalPow : Tryz.prog.globalNamed "internal/strconv.uint64pow10" = some 2 := by kernel_rfl
theorem Env.below {B : Nat} {w w' : World} (h : Env w) (hb : Below B w w') (hB : w.heap.size ≤ B) : Env w' := by
  obtain ⟨⟨m, hm⟩, hp, hl⟩ := h
  exact ⟨⟨m, by rw [hb.cell (p := ⟨1, 0, none⟩) (Nat.lt_of_lt_of_le hl.1 hB)]; exact hm⟩, Joins.tab_stays globalPow hp hb hB, Nat.lt_of_lt_of_le hl.1 hb.size, Nat.lt_of_lt_of_le hl.2 hb.size⟩
theorem Env.grow {w w' : World} (h : Env w) (hb : Below w.heap.size w w') : Env w' := h.below hb (Nat.le_refl _)
theorem Env.alloc {w : World} (h : Env w) (o : Obj) : Env (w.alloc o) := h.grow (bal (bb _) _)

theorem itoa_env (n : Int) (h0 : -9223372036854775808 ≤ n) (h1 : n ≤ 9223372036854775807) (w : World) (hE : Env w) :
    Calls Tryz.prog 62 #[.int .i64 n] w fun e w' => e = .returned (.string (ms (Lib.itoa n))) ∧ Below w.heap.size w w' := by
  refine (Tryz.strconv_Itoa n h0 h1 w hE.pow).mono ?_
  rintro e w' ⟨rfl, k, os, rfl⟩
  exact ⟨rfl, below_regrown w (w.drewN k).drawn os⟩

/-- What the reading of numbers needs of the world. -/
structure NumEnv (w : World) : Prop where
  env : Env w
  e1 : ∃ (tp : TypeId) (p : Value), w.cell? ⟨3, 0, none⟩ = some (.iface tp p)
  e2 : ∃ (tp : TypeId) (p : Value), w.cell? ⟨4, 0, none⟩ = some (.iface tp p)
theorem NumEnv.grow {w w' : World} (h : NumEnv w) (hb : Below w.heap.size w w') : NumEnv w' := by
  obtain ⟨h0, ⟨t1, p1, h1⟩, ⟨t2, p2, h2⟩⟩ := h
  exact ⟨h0.grow hb, ⟨t1, p1, (hb.cell (World.block_lt_of_cell? _ _ h1)).trans h1⟩, ⟨t2, p2, (hb.cell (World.block_lt_of_cell? _ _ h2)).trans h2⟩⟩

theorem bytes_below (w : World) (e : TypeId) (t : ByteArray) : Below w.heap.size w (Lib.bytesWorld w e t) :=
  ⟨rfl, rfl, rfl, by rw [Lib.bytesWorld_size]; omega, fun k hk => Lib.bytesWorld_at_old w e t k hk⟩
theorem atoi_yes {s : ByteArray} {v : Int} (hs : s.size ≤ 1000000) (h : Lib.atoiAll (bl s) = .ok v) (w : World) :
    Calls Tryz.prog 154 #[.string s] w fun e w' => e = .returned (.tuple #[.int .i64 v, .nilIface]) ∧ Below w.heap.size w w' := by
  refine (Tryz.strconv_Atoi_ok s (by omega) v h w).mono ?_
  rintro e w' ⟨rfl, rfl | ⟨t, rfl⟩⟩
  · exact ⟨rfl, bb _⟩
  · exact ⟨rfl, bytes_below w _ t⟩
/-- A number and an error that is not nil. -/
def AtoiNo (w : World) (e : Ending) (w' : World) : Prop :=
  ∃ (x : Int) (N : Nat), -9223372036854775808 ≤ x ∧ x ≤ 9223372036854775807 ∧ e = .returned (.tuple #[.int .i64 x, .iface 192 (.pointer (some ⟨N, 0, none⟩))]) ∧ Below w.heap.size w w'
theorem atoi_no {s : ByteArray} (hs : s.size ≤ 1000000) (h : ∀ v, Lib.atoiAll (bl s) ≠ .ok v) (w : World) (hE : NumEnv w) : Calls Tryz.prog 154 #[.string s] w (AtoiNo w) := by
  obtain ⟨t1, p1, h1⟩ := hE.e1
  obtain ⟨t2, p2, h2⟩ := hE.e2
  rcases hq : Lib.atoiAll (bl s) with v | _ | _
  · exact absurd hq (h v)
  · refine (Any.strconv_Atoi_syntax Tryz.laysC172 s (by omega) hq _ w h1 (.inr ⟨t1, p1, rfl⟩)).mono ?_
    rintro e w' ⟨N, rfl, _, _, hb⟩
    exact ⟨0, N, by decide, by decide, rfl, hb⟩
  · refine (Tryz.strconv_Atoi_range s (by omega) hq _ w h2 (.inr ⟨t2, p2, rfl⟩)).mono ?_
    rintro e w' ⟨N, rfl, _, _, hb⟩
    have hx := Lib.atoiSat_bounds (bl s)
    exact ⟨_, N, hx.1, hx.2, rfl, hb⟩

/-- What FormatInt gives. -/
def fmtB (n : Int) : List UInt8 × Bool := if inB n (-999999) 999999 then (Lib.itoa n, true) else ([], false)
set_option maxHeartbeats 400000 in
theorem implFormat_any (n : Int) (w : World) (hE : Env w) (h0 : -9223372036854775808 ≤ n) (h1 : n ≤ 9223372036854775807) :
    Calls Tryz.prog 155 #[.int .i64 n] w fun e w' => e = .returned (.tuple #[.string (ms (fmtB n).1), .bool (fmtB n).2]) ∧ Below w.heap.size w w' := by
  have hEH := Lib.hid hE
  clear hE
  cases hq : inB n (-999999) 999999
  · have hR : Hid (fmtB n = ([], false)) := by unfold Hid fmtB; rw [hq]; rfl
    go_enter Tryz.func155, Tryz.ntmps155
    go_wp2_with fail
    refine (within_any _ _ _ _).mono ?_
    rw [hq]
    rintro e w1 ⟨rfl, rfl⟩
    go_wp2_with fail
    go_ret2
    exact ⟨by rw [hR.out]; rfl, bb _⟩
  · have hR : Hid (fmtB n = (Lib.itoa n, true)) := by unfold Hid fmtB; rw [hq]; rfl
    go_enter Tryz.func155, Tryz.ntmps155
    go_wp2_with fail
    refine (within_any _ _ _ _).mono ?_
    rw [hq]
    rintro e w1 ⟨rfl, rfl⟩
    go_wp2_with fail
    refine (itoa_env n h0 h1 _ hEH.out).mono ?_
    rintro e w2 ⟨rfl, hb2⟩
    go_wp2_with fail
    go_ret2
    exact ⟨by rw [hR.out]; rfl, hb2⟩
theorem implFormat_at {n : Int} {f1 : List UInt8} {f2 : Bool} (h : fmtB n = (f1, f2)) (w : World) (hE : Env w) (h0 : -9223372036854775808 ≤ n) (h1 : n ≤ 9223372036854775807) :
    Calls Tryz.prog 155 #[.int .i64 n] w fun e w' => e = .returned (.tuple #[.string (ms f1), .bool f2]) ∧ Below w.heap.size w w' := by
  have := implFormat_any n w hE h0 h1
  rw [h] at this
  exact this
set_option maxHeartbeats 1000000 in
theorem implParse_any (s : ByteArray) (w : World) (hE : NumEnv w) (hs : s.size ≤ 1000000) :
    Calls Tryz.prog 103 #[.string s] w fun e w' => e = .returned (.tuple #[.int .i64 (numB (bl s)).1, .bool (numB (bl s)).2]) ∧ Below w.heap.size w w' := by
  have hEH := Lib.hid hE
  clear hE
  by_cases hv : ∃ v, Lib.atoiAll (bl s) = .ok v
  · obtain ⟨v, hv⟩ := hv
    have hN := numB_ok hv
    obtain ⟨hb0, hb1⟩ := Lib.atoiAll_bounds hv
    have hC := Lib.hid fun w => atoi_yes hs hv w
    clear hv
    obtain ⟨fm, hfm⟩ : ∃ fm, fmtB v = fm := ⟨_, rfl⟩
    obtain ⟨f1, f2⟩ := fm
    have hF := Lib.hid fun (w : World) (hE : Env w) => implFormat_at hfm w hE hb0 hb1
    unfold fmtB at hfm
    cases hq : inB v (-999999) 999999
    · rw [hq] at hfm hN
      simp only [Bool.false_eq_true, if_false, Prod.mk.injEq, Bool.false_and] at hfm hN
      obtain ⟨rfl, rfl⟩ := hfm
      replace hN := Lib.hid hN
      clear hq
      go_enter Tryz.func103, Tryz.ntmps103
      go_wp2_with fail
      refine (hC.out _).mono ?_
      rintro e w1 ⟨rfl, hb1'⟩
      go_wp2_with fail
      refine (hF.out _ (hEH.out.grow hb1').env).mono ?_
      rintro e w2 ⟨rfl, hb2⟩
      go_wp2_with fail
      go_ret2
      exact ⟨by rw [hN.out]; rfl, btr hb1' hb2⟩
    · rw [hq] at hfm hN
      simp only [if_true, Prod.mk.injEq, Bool.true_and] at hfm hN
      obtain ⟨rfl, rfl⟩ := hfm
      clear hq
      cases hq : Lib.itoa v == bl s
      · rw [hq] at hN
        simp only [Bool.false_eq_true, if_false] at hN
        replace hN := Lib.hid hN
        have hq' : (Lib.itoa v != bl s) = true := by simp [bne, hq]
        go_enter Tryz.func103, Tryz.ntmps103
        go_wp2_with fail
        refine (hC.out _).mono ?_
        rintro e w1 ⟨rfl, hb1'⟩
        go_wp2_with fail
        refine (hF.out _ (hEH.out.grow hb1').env).mono ?_
        rintro e w2 ⟨rfl, hb2⟩
        go_wp2_with fail
        go_ret2
        exact ⟨by rw [hN.out]; rfl, btr hb1' hb2⟩
      · rw [hq] at hN
        simp only [if_true] at hN
        replace hN := Lib.hid hN
        have hq' : (Lib.itoa v != bl s) = false := by simp [bne, hq]
        go_enter Tryz.func103, Tryz.ntmps103
        go_wp2_with fail
        refine (hC.out _).mono ?_
        rintro e w1 ⟨rfl, hb1'⟩
        go_wp2_with fail
        refine (hF.out _ (hEH.out.grow hb1').env).mono ?_
        rintro e w2 ⟨rfl, hb2⟩
        go_wp2_with fail
        go_ret2
        exact ⟨by rw [hN.out]; rfl, btr hb1' hb2⟩
  · have hN := Lib.hid (numB_no (l := bl s) fun v e => hv ⟨v, e⟩)
    have hC := Lib.hid fun w hE => atoi_no (s := s) hs (fun v e => hv ⟨v, e⟩) w hE
    clear hv
    go_enter Tryz.func103, Tryz.ntmps103
    go_wp2_with fail
    refine (hC.out _ hEH.out).mono ?_
    rintro e w1 ⟨x, N, hx0, hx1, rfl, hb1⟩
    go_wp2_with fail
    refine (implFormat_any x _ (hEH.out.grow hb1).env hx0 hx1).mono ?_
    generalize fmtB x = fm
    obtain ⟨f1, f2⟩ := fm
    rintro e w2 ⟨rfl, hb2⟩
    go_wp2_with fail
    go_ret2
    exact ⟨by rw [hN.out]; rfl, btr hb1 hb2⟩

theorem numB_at {l m : List UInt8} {v : Int} {n : Nat} (h1 : magB l = m) (h2 : sgnV l = v) (h3 : m.length = n) : numB l = if inB n 1 6 && m.all isDig && Lib.itoa v == l then (v, true) else (0, false) := by rw [numB_read, h1, h2, h3]
theorem dig_step {l : List UInt8} {k : Nat} (hk : k < l.length) : (l.take (k + 1)).all isDig = ((l.take k).all isDig && isDig l[k]) := by
  rw [List.take_succ_eq_append_getElem hk, List.all_append]; simp
theorem val_step {l : List UInt8} {k : Nat} (hk : k < l.length) : valD (l.take (k + 1)) = valD (l.take k) * 10 + (l[k].toNat - 48) := by
  rw [List.take_succ_eq_append_getElem hk, valD_snoc]
theorem dig_no {l : List UInt8} {k : Nat} (hk : k < l.length) (h : isDig l[k] = false) : l.all isDig = false := by
  rw [List.all_eq_false]; exact ⟨_, List.getElem_mem hk, by simpa using h⟩
theorem val_small {l : List UInt8} {k : Nat} (hk : k ≤ 6) (h : (l.take k).all isDig = true) : valD (l.take k) ≤ 999999 := by
  have h1 := valD_lt _ (l.take k) rfl h
  have h2 : 10 ^ (l.take k).length ≤ 10 ^ 6 := Nat.pow_le_pow_right (by decide) (by rw [List.length_take]; omega)
  omega

set_option maxHeartbeats 4000000 in
theorem l1Read_any (s : ByteArray) (w : World) (hs : s.size ≤ 1000000) :
    Calls Tryz.prog 108 #[.string s] w fun e w' => e = .returned (.tuple #[.int .i64 (numB (bl s)).1, .bool (numB (bl s)).2]) ∧ Below w.heap.size w w' := by
  by_cases h1s : 1 < s.size
  case neg =>
    have hneg : negB (bl s) = false := by unfold negB; rw [bl_length, decide_eq_false (by omega)]; rfl
    have hR := Lib.hid (numB_at (l := bl s) (m := bl s) (v := (valD (bl s) : Int)) (by unfold magB; rw [hneg]; rfl) (by unfold sgnV magB; rw [hneg]; rfl) (bl_length _))
    obtain ⟨q6, hq6⟩ : ∃ q, inB ((bl s).length : Int) 1 6 = q := ⟨_, rfl⟩
    rw [bl_length] at hq6
    replace hq6 := Lib.hid hq6
    have hsz : ¬ (1 : Int) < (s.size : Int) := by omega
    clear hneg
    go_enter Tryz.func108, Tryz.ntmps108
    go_wp2_with fail
    refine (l1In_any _ _ _ _).mono ?_
    rintro e w1 ⟨rfl, rfl⟩
    rw [show inB (s.size : Int) 1 6 = q6 from hq6.out]
    cases q6
    · have hN : Hid (numB (bl s) = (0, false)) := by unfold Hid; rw [hR.out, hq6.out]; rfl
      go_wp2_with fail
      go_ret2
      exact ⟨by rw [hN.out]; rfl, bb _⟩
    have hT6 : s.size ≤ 6 := by have := (inB_true.1 hq6.out).2; omega
    go_wp2_with fail
    go_loop [5, 6] (fun z i => ∃ k : Nat, k ≤ s.size ∧ i = .int .i64 k ∧ z = .int .i64 (valD ((bl s).take k)) ∧ Hid (((bl s).take k).all isDig = true)) (fun _ i => s.size - (intOf i).toNat)
    case atStart => exact ⟨0, Nat.zero_le _, rfl, rfl, by simp [Hid]⟩
    case round =>
      obtain ⟨k, hk, rfl, rfl, HD⟩ := hrel
      have hv9 := val_small (l := bl s) (k := k) (by omega) HD.out
      by_cases hlt : k < s.size
      · have hkl : k < (bl s).length := by rw [bl_length]; exact hlt
        have hge : (bl s)[k] = s[k] := bl_get s k hlt
        have hds := Lib.hid (dig_step hkl)
        have hvs := Lib.hid (val_step hkl)
        have hdn := Lib.hid (@dig_no (bl s) k hkl)
        rw [hge] at hds hvs hdn
        have hc256 := s[k].toNat_lt
        clear hge
        by_cases h1 : (s[k].toNat : Int) < 48
        · have hN : Hid (numB (bl s) = (0, false)) := by unfold Hid; rw [hR.out, hdn.out (by simp [isDig]; omega), Bool.and_false, Bool.false_and]; rfl
          clear hds hvs hdn HD
          go_wp2_with fail
          go_ret2
          exact ⟨by rw [hN.out]; rfl, bb _⟩
        by_cases h2 : (57 : Int) < (s[k].toNat : Int)
        · have hN : Hid (numB (bl s) = (0, false)) := by unfold Hid; rw [hR.out, hdn.out (by simp [isDig]; omega), Bool.and_false, Bool.false_and]; rfl
          clear hds hvs hdn HD
          go_wp2_with fail
          go_ret2
          exact ⟨by rw [hN.out]; rfl, bb _⟩
        have hD2 : Hid (((bl s).take (k + 1)).all isDig = true) := by unfold Hid; rw [hds.out, HD.out]; simp [isDig]; omega
        have h48 : (48 : Int) ≤ (s[k].toNat : Int) := by omega
        have hV2 : Hid ((valD ((bl s).take (k + 1)) : Int) = 10 * (valD ((bl s).take k) : Int) + ((s[k].toNat : Int) - 48)) := by unfold Hid; rw [hvs.out]; omega
        clear hds hvs hdn HD
        go_wp2_with fail
        go_round
        case rel => exact ⟨k + 1, by omega, by go_num, by rw [hV2.out]; first | rfl | (go_num; done) | (congr 1; omega), hD2⟩
        case measure => simp [intOf]; omega
      · obtain rfl : k = s.size := by omega
        have HA := HD.out
        rw [bl_take_all s _ (Nat.le_refl _)] at HA hv9 ⊢
        have hN : numB (bl s) = if Lib.itoa ((valD (bl s) : Int)) == bl s then ((valD (bl s) : Int), true) else (0, false) := by rw [hR.out, hq6.out, HA]; rfl
        generalize valD (bl s) = V at hN hv9 ⊢
        obtain ⟨qq, hqq⟩ : ∃ qq, (Lib.itoa ((V : Int)) == bl s) = qq := ⟨_, rfl⟩
        rw [hqq] at hN
        have hq' : (Lib.itoa ((V : Int)) != bl s) = !qq := by rw [← hqq]; rfl
        replace hN := Lib.hid hN
        clear HA HD hR
        have hlt2 : ¬ (s.size : Int) < (s.size : Int) := by omega
        cases qq
        all_goals
          simp only [Bool.not_true, Bool.not_false] at hq'
          go_wp2_with fail
          refine (l1Num_any _ _ (by omega) (by omega)).mono ?_
          rintro e w2 ⟨rfl, hb2⟩
          go_wp2_with fail
          go_ret2
          exact ⟨by rw [hN.out]; rfl, hb2⟩
  by_cases h45 : s[0].toNat = 45
  case neg =>
    have hneg : negB (bl s) = false := by
      unfold negB
      have : (bl s).head? = some s[0] := by rw [List.head?_eq_getElem?, List.getElem?_eq_getElem (by rw [bl_length]; omega), bl_get s 0 (by omega)]
      rw [this]
      simp only [Bool.and_eq_false_iff, Option.map_some, beq_eq_false_iff_ne, ne_eq, Option.some.injEq]
      right; simpa using h45
    have hR := Lib.hid (numB_at (l := bl s) (m := bl s) (v := (valD (bl s) : Int)) (by unfold magB; rw [hneg]; rfl) (by unfold sgnV magB; rw [hneg]; rfl) (bl_length _))
    obtain ⟨q6, hq6⟩ : ∃ q, inB ((bl s).length : Int) 1 6 = q := ⟨_, rfl⟩
    rw [bl_length] at hq6
    replace hq6 := Lib.hid hq6
    have hsz : (1 : Int) < (s.size : Int) := by omega
    have h0 : 0 < s.size := by omega
    have h45' : ((s[0].toNat : Int) == 45) = false := by rw [beq_eq_false_iff_ne]; omega
    clear hneg h45
    go_enter Tryz.func108, Tryz.ntmps108
    go_wp2_with fail
    refine (l1In_any _ _ _ _).mono ?_
    rintro e w1 ⟨rfl, rfl⟩
    rw [show inB (s.size : Int) 1 6 = q6 from hq6.out]
    cases q6
    · have hN : Hid (numB (bl s) = (0, false)) := by unfold Hid; rw [hR.out, hq6.out]; rfl
      go_wp2_with fail
      go_ret2
      exact ⟨by rw [hN.out]; rfl, bb _⟩
    have hT6 : s.size ≤ 6 := by have := (inB_true.1 hq6.out).2; omega
    go_wp2_with fail
    go_loop [5, 6] (fun z i => ∃ k : Nat, k ≤ s.size ∧ i = .int .i64 k ∧ z = .int .i64 (valD ((bl s).take k)) ∧ Hid (((bl s).take k).all isDig = true)) (fun _ i => s.size - (intOf i).toNat)
    case atStart => exact ⟨0, Nat.zero_le _, rfl, rfl, by simp [Hid]⟩
    case round =>
      obtain ⟨k, hk, rfl, rfl, HD⟩ := hrel
      have hv9 := val_small (l := bl s) (k := k) (by omega) HD.out
      by_cases hlt : k < s.size
      · have hkl : k < (bl s).length := by rw [bl_length]; exact hlt
        have hge : (bl s)[k] = s[k] := bl_get s k hlt
        have hds := Lib.hid (dig_step hkl)
        have hvs := Lib.hid (val_step hkl)
        have hdn := Lib.hid (@dig_no (bl s) k hkl)
        rw [hge] at hds hvs hdn
        have hc256 := s[k].toNat_lt
        clear hge
        by_cases h1 : (s[k].toNat : Int) < 48
        · have hN : Hid (numB (bl s) = (0, false)) := by unfold Hid; rw [hR.out, hdn.out (by simp [isDig]; omega), Bool.and_false, Bool.false_and]; rfl
          clear hds hvs hdn HD
          go_wp2_with fail
          go_ret2
          exact ⟨by rw [hN.out]; rfl, bb _⟩
        by_cases h2 : (57 : Int) < (s[k].toNat : Int)
        · have hN : Hid (numB (bl s) = (0, false)) := by unfold Hid; rw [hR.out, hdn.out (by simp [isDig]; omega), Bool.and_false, Bool.false_and]; rfl
          clear hds hvs hdn HD
          go_wp2_with fail
          go_ret2
          exact ⟨by rw [hN.out]; rfl, bb _⟩
        have hD2 : Hid (((bl s).take (k + 1)).all isDig = true) := by unfold Hid; rw [hds.out, HD.out]; simp [isDig]; omega
        have h48 : (48 : Int) ≤ (s[k].toNat : Int) := by omega
        have hV2 : Hid ((valD ((bl s).take (k + 1)) : Int) = 10 * (valD ((bl s).take k) : Int) + ((s[k].toNat : Int) - 48)) := by unfold Hid; rw [hvs.out]; omega
        clear hds hvs hdn HD
        go_wp2_with fail
        go_round
        case rel => exact ⟨k + 1, by omega, by go_num, by rw [hV2.out]; first | rfl | (go_num; done) | (congr 1; omega), hD2⟩
        case measure => simp [intOf]; omega
      · obtain rfl : k = s.size := by omega
        have HA := HD.out
        rw [bl_take_all s _ (Nat.le_refl _)] at HA hv9 ⊢
        have hN : numB (bl s) = if Lib.itoa ((valD (bl s) : Int)) == bl s then ((valD (bl s) : Int), true) else (0, false) := by rw [hR.out, hq6.out, HA]; rfl
        generalize valD (bl s) = V at hN hv9 ⊢
        obtain ⟨qq, hqq⟩ : ∃ qq, (Lib.itoa ((V : Int)) == bl s) = qq := ⟨_, rfl⟩
        rw [hqq] at hN
        have hq' : (Lib.itoa ((V : Int)) != bl s) = !qq := by rw [← hqq]; rfl
        replace hN := Lib.hid hN
        clear HA HD hR
        have hlt2 : ¬ (s.size : Int) < (s.size : Int) := by omega
        cases qq
        all_goals
          simp only [Bool.not_true, Bool.not_false] at hq'
          go_wp2_with fail
          refine (l1Num_any _ _ (by omega) (by omega)).mono ?_
          rintro e w2 ⟨rfl, hb2⟩
          go_wp2_with fail
          go_ret2
          exact ⟨by rw [hN.out]; rfl, hb2⟩
  have hneg : negB (bl s) = true := by
    unfold negB
    have : (bl s).head? = some s[0] := by rw [List.head?_eq_getElem?, List.getElem?_eq_getElem (by rw [bl_length]; omega), bl_get s 0 (by omega)]
    rw [this, bl_length, decide_eq_true h1s]
    simp [h45]
  obtain ⟨T, hT⟩ : ∃ T, s.extract 1 s.size = T := ⟨_, rfl⟩
  have hTb : (bl s).tail = bl T := by rw [← hT, bl_extract, List.take_of_length_le (by rw [List.length_drop, bl_length]; omega), List.drop_one]
  have hTs : T.size + 1 = s.size := by have h := congrArg List.length hTb; rw [List.length_tail, bl_length, bl_length] at h; omega
  have hR := Lib.hid (numB_at (l := bl s) (m := bl T) (v := -(valD (bl T) : Int)) (by unfold magB; rw [hneg, ← hTb]; rfl) (by unfold sgnV magB; rw [hneg, ← hTb]; rfl) (bl_length _))
  obtain ⟨q6, hq6⟩ : ∃ q, inB ((bl T).length : Int) 1 6 = q := ⟨_, rfl⟩
  rw [bl_length] at hq6
  replace hq6 := Lib.hid hq6
  have hsz : (1 : Int) < (s.size : Int) := by omega
  have h0 : 0 < s.size := by omega
  have h45' : ((s[0].toNat : Int) == 45) = true := by rw [beq_iff_eq]; omega
  have hTs2 : T.size < s.size := by omega
  replace hTs := Lib.hid hTs
  clear hneg h45 hTb
  go_enter Tryz.func108, Tryz.ntmps108
  go_wp2_with fail
  refine (l1In_any _ _ _ _).mono ?_
  rintro e w1 ⟨rfl, rfl⟩
  rw [show inB (T.size : Int) 1 6 = q6 from hq6.out]
  cases q6
  · have hN : Hid (numB (bl s) = (0, false)) := by unfold Hid; rw [hR.out, hq6.out]; rfl
    go_wp2_with fail
    go_ret2
    exact ⟨by rw [hN.out]; rfl, bb _⟩
  have hT6 : T.size ≤ 6 := by have := (inB_true.1 hq6.out).2; omega
  go_wp2_with fail
  go_loop [5, 6] (fun z i => ∃ k : Nat, k ≤ T.size ∧ i = .int .i64 k ∧ z = .int .i64 (valD ((bl T).take k)) ∧ Hid (((bl T).take k).all isDig = true)) (fun _ i => T.size - (intOf i).toNat)
  case atStart => exact ⟨0, Nat.zero_le _, rfl, rfl, by simp [Hid]⟩
  case round =>
    obtain ⟨k, hk, rfl, rfl, HD⟩ := hrel
    have hv9 := val_small (l := bl T) (k := k) (by omega) HD.out
    by_cases hlt : k < T.size
    · have hkl : k < (bl T).length := by rw [bl_length]; exact hlt
      have hge : (bl T)[k] = T[k] := bl_get T k hlt
      have hds := Lib.hid (dig_step hkl)
      have hvs := Lib.hid (val_step hkl)
      have hdn := Lib.hid (@dig_no (bl T) k hkl)
      rw [hge] at hds hvs hdn
      have hc256 := T[k].toNat_lt
      clear hge
      by_cases h1 : (T[k].toNat : Int) < 48
      · have hN : Hid (numB (bl s) = (0, false)) := by unfold Hid; rw [hR.out, hdn.out (by simp [isDig]; omega), Bool.and_false, Bool.false_and]; rfl
        clear hds hvs hdn HD
        go_wp2_with fail
        go_ret2
        exact ⟨by rw [hN.out]; rfl, bb _⟩
      by_cases h2 : (57 : Int) < (T[k].toNat : Int)
      · have hN : Hid (numB (bl s) = (0, false)) := by unfold Hid; rw [hR.out, hdn.out (by simp [isDig]; omega), Bool.and_false, Bool.false_and]; rfl
        clear hds hvs hdn HD
        go_wp2_with fail
        go_ret2
        exact ⟨by rw [hN.out]; rfl, bb _⟩
      have hD2 : Hid (((bl T).take (k + 1)).all isDig = true) := by unfold Hid; rw [hds.out, HD.out]; simp [isDig]; omega
      have h48 : (48 : Int) ≤ (T[k].toNat : Int) := by omega
      have hV2 : Hid ((valD ((bl T).take (k + 1)) : Int) = 10 * (valD ((bl T).take k) : Int) + ((T[k].toNat : Int) - 48)) := by unfold Hid; rw [hvs.out]; omega
      clear hds hvs hdn HD
      go_wp2_with fail
      go_round
      case rel => exact ⟨k + 1, by omega, by go_num, by rw [hV2.out]; first | rfl | (go_num; done) | (congr 1; omega), hD2⟩
      case measure => simp [intOf]; omega
    · obtain rfl : k = T.size := by omega
      have HA := HD.out
      rw [bl_take_all T _ (Nat.le_refl _)] at HA hv9 ⊢
      have hN : numB (bl s) = if Lib.itoa (-(valD (bl T) : Int)) == bl s then (-(valD (bl T) : Int), true) else (0, false) := by rw [hR.out, hq6.out, HA]; rfl
      generalize valD (bl T) = V at hN hv9 ⊢
      obtain ⟨qq, hqq⟩ : ∃ qq, (Lib.itoa (-(V : Int)) == bl s) = qq := ⟨_, rfl⟩
      rw [hqq] at hN
      have hq' : (Lib.itoa (-(V : Int)) != bl s) = !qq := by rw [← hqq]; rfl
      replace hN := Lib.hid hN
      clear HA HD hR
      have hlt2 : (T.size : Int) < (s.size : Int) := by omega
      cases qq
      all_goals
        simp only [Bool.not_true, Bool.not_false] at hq'
        go_wp2_with fail
        refine (l1Num_any _ _ (by omega) (by omega)).mono ?_
        rintro e w2 ⟨rfl, hb2⟩
        go_wp2_with fail
        go_ret2
        exact ⟨by rw [hN.out]; rfl, hb2⟩
end Go.Proofs.YtahbepajeplcmaaGreatDoor

/- Memory facts: rows of flat elements that are made and then filled, element by element. No program in sight. -/
namespace Go.Proofs.YtahbepajeplcmaaGreatDoor
open Go.RowKit

/-- The elements f 0, f 1, .. lie in block B, one behind the other, and may be written. -/
def FlatAt {α : Type} (enc : α → List Value) (n B len : Nat) (f : Nat → α) (w : World) : Prop := ∀ j, j < len → ∀ (i : Nat) (u : Value), (enc (f j))[i]? = some u → cellIs true w B (j * n + i) u

section
variable {α : Type} {enc : α → List Value} {n B len : Nat} {f : Nat → α} {w w' : World}
theorem FlatAt.grow (h : FlatAt enc n B len f w) (hb : Below w.heap.size w w') : FlatAt enc n B len f w' := fun j hj i u hu =>
  (h j hj i u hu).keep (hb.block B (h j hj i u hu).lt)
theorem FlatAt.mono {len' : Nat} {g : Nat → α} (h : FlatAt enc n B len f w) (hl : len' ≤ len) (hg : ∀ j, j < len' → g j = f j) : FlatAt enc n B len' g w := fun j hj i u hu =>
  h j (by omega) i u (by rw [← hg j hj]; exact hu)
theorem FlatAt.cell (h : FlatAt enc n B len f w) {j : Nat} (hj : j < len) {i : Nat} {u : Value} (hu : (enc (f j))[i]? = some u) : w.cell? ⟨B, j * n + i, none⟩ = some u := (h j hj i u hu).1
theorem FlatAt.frozen (h : FlatAt enc n B len f w) {j : Nat} (hj : j < len) {i : Nat} {u : Value} (hu : (enc (f j))[i]? = some u) : w.frozen? ⟨B, j * n + i, none⟩ = false := (h j hj i u hu).2 rfl
/-- Behind make: every element is the zero value. -/
theorem FlatAt.made {base : Nat} {e : TypeId} {cap : Nat} {z : α} {zc : Array Value} (hz : enc z = zc.toList) (hn : zc.size = n) (h : w.ownsRow base e n (.slice (some ⟨B, 0, none⟩) len cap) len (madeCells zc (len * n)).toList) : FlatAt enc n B len (fun _ => z) w := by
  intro j hj i u hu
  have hi : i < n := by
    have := (List.getElem?_eq_some_iff.1 hu).1
    rw [hz, Array.length_toList, hn] at this
    exact this
  have hlt : j * n + i < len * n := by
    have : (j + 1) * n ≤ len * n := Nat.mul_le_mul_right n hj
    rw [Nat.add_mul] at this; omega
  refine ⟨?_, fun _ => h.frozenAt _⟩
  rw [h.cellAt _ hlt, Array.getElem?_toList]
  have hm : (j * n + i) % n = i := by rw [Nat.mul_comm, Nat.mul_add_mod, Nat.mod_eq_of_lt hi]
  rw [hz, Array.getElem?_toList] at hu
  unfold madeCells
  rw [Array.getElem?_map, Array.getElem?_range, if_pos hlt]
  simp only [Option.map_some, hn, hm]
  rw [getElem!_def, hu]
/-- The finished row. -/
theorem FlatAt.row {good : α → Prop} {hne : ∀ x, (enc x).length = n} {xs : List α} {z : α} {cap : Nat} (h : FlatAt enc n B xs.length (fun j => xs.getD j z) w) (hg : ∀ x ∈ xs, good x) (h1 : xs.length ≤ cap) (h2 : cap ≤ 9223372036854775807) (hx : xs ≠ []) (h0 : 0 < n) :
    (Ty.flat n enc good hne).row true w (.slice (some ⟨B, 0, none⟩) xs.length cap) xs [B] := by
  refine row_flat_mk hg h1 h2 hx h0 fun j hj i u hu => ?_
  rw [Nat.zero_add]
  refine h j hj i u ?_
  show (enc (xs.getD j z))[i]? = some u
  rw [List.getD_eq_getElem?_getD, List.getElem?_eq_getElem hj]
  exact hu
theorem set_ne' (w : World) {b o o' : Nat} {u : Value} (h : o ≠ o') : (w.setCell ⟨b, o, none⟩ u).cell? ⟨b, o', none⟩ = w.cell? ⟨b, o', none⟩ := World.cell?_setCell_other w _ _ _ (by simp only [ne_eq, Addr.mk.injEq]; omega)
theorem set_eq' (w : World) {b o : Nat} {u v : Value} (h : w.cell? ⟨b, o, none⟩ = some v) : (w.setCell ⟨b, o, none⟩ u).cell? ⟨b, o, none⟩ = some u := World.cell?_setCell_same' _ _ _ (by rw [h]; rfl)
/-- An element of one cell is stored. -/
theorem FlatAt.set1 {f : Nat → α} (hn : ∀ x, (enc x).length = 1) (h : FlatAt enc 1 B len f w) {k : Nat} {x : α} {u0 : Value} (he : enc x = [u0]) :
    FlatAt enc 1 B len (fun j => if j = k then x else f j) (w.setCell ⟨B, k, none⟩ u0) := by
  intro j hj i u hu
  have hi : i < 1 := by have := (List.getElem?_eq_some_iff.1 hu).1; rwa [hn] at this
  obtain rfl : i = 0 := by omega
  have hold : ∃ v, (enc (f j))[0]? = some v := ⟨_, List.getElem?_eq_getElem (by rw [hn]; decide)⟩
  obtain ⟨v, hv⟩ := hold
  have hc := h j hj 0 v hv
  refine ⟨?_, fun _ => by rw [World.frozen?_setCell]; exact hc.2 rfl⟩
  by_cases e : j = k
  · subst e
    simp only [if_true, he] at hu
    simp at hu; subst hu
    have := hc.1
    rw [Nat.mul_one, Nat.add_zero] at this ⊢
    exact set_eq' w this
  · simp only [if_neg e] at hu
    rw [set_ne' w (by omega)]
    rw [hv] at hu; cases hu
    exact hc.1
/-- An element of two cells is stored. -/
theorem FlatAt.set2 {f : Nat → α} (hn : ∀ x, (enc x).length = 2) (h : FlatAt enc 2 B len f w) {k : Nat} {x : α} {u0 u1 : Value} (he : enc x = [u0, u1]) :
    FlatAt enc 2 B len (fun j => if j = k then x else f j) ((w.setCell ⟨B, k * 2, none⟩ u0).setCell ⟨B, k * 2 + 1, none⟩ u1) := by
  intro j hj i u hu
  have hi : i < 2 := by have := (List.getElem?_eq_some_iff.1 hu).1; rwa [hn] at this
  obtain ⟨v, hv⟩ : ∃ v, (enc (f j))[i]? = some v := ⟨_, List.getElem?_eq_getElem (by rw [hn]; exact hi)⟩
  have hc := h j hj i v hv
  refine ⟨?_, fun _ => by rw [World.frozen?_setCell, World.frozen?_setCell]; exact hc.2 rfl⟩
  by_cases e : j = k
  · subst e
    simp only [if_true, he] at hu
    match i, hi, hu with
    | 0, _, hu =>
      simp at hu; subst hu
      rw [set_ne' _ (by omega)]
      exact set_eq' w hc.1
    | 1, _, hu =>
      simp at hu; subst hu
      exact set_eq' _ ((set_ne' w (by omega)).trans hc.1)
  · simp only [if_neg e] at hu
    rw [set_ne' _ (by omega), set_ne' w (by omega)]
    rw [hv] at hu; cases hu
    exact hc.1
/-- An element of four cells is stored. -/
theorem FlatAt.set4 {f : Nat → α} (hn : ∀ x, (enc x).length = 4) (h : FlatAt enc 4 B len f w) {k : Nat} {x : α} {u0 u1 u2 u3 : Value} (he : enc x = [u0, u1, u2, u3]) :
    FlatAt enc 4 B len (fun j => if j = k then x else f j) ((((w.setCell ⟨B, k * 4, none⟩ u0).setCell ⟨B, k * 4 + 1, none⟩ u1).setCell ⟨B, k * 4 + 2, none⟩ u2).setCell ⟨B, k * 4 + 3, none⟩ u3) := by
  intro j hj i u hu
  have hi : i < 4 := by have := (List.getElem?_eq_some_iff.1 hu).1; rwa [hn] at this
  obtain ⟨v, hv⟩ : ∃ v, (enc (f j))[i]? = some v := ⟨_, List.getElem?_eq_getElem (by rw [hn]; exact hi)⟩
  have hc := h j hj i v hv
  refine ⟨?_, fun _ => by rw [World.frozen?_setCell, World.frozen?_setCell, World.frozen?_setCell, World.frozen?_setCell]; exact hc.2 rfl⟩
  by_cases e : j = k
  · subst e
    simp only [if_true, he] at hu
    match i, hi, hu with
    | 0, _, hu =>
      simp at hu; subst hu
      rw [set_ne' _ (by omega), set_ne' _ (by omega), set_ne' _ (by omega)]
      exact set_eq' w hc.1
    | 1, _, hu =>
      simp at hu; subst hu
      rw [set_ne' _ (by omega), set_ne' _ (by omega)]
      exact set_eq' _ ((set_ne' w (by omega)).trans hc.1)
    | 2, _, hu =>
      simp at hu; subst hu
      rw [set_ne' _ (by omega)]
      exact set_eq' _ ((set_ne' _ (by omega)).trans ((set_ne' w (by omega)).trans hc.1))
    | 3, _, hu =>
      simp at hu; subst hu
      exact set_eq' _ ((set_ne' _ (by omega)).trans ((set_ne' _ (by omega)).trans ((set_ne' w (by omega)).trans hc.1)))
  · simp only [if_neg e] at hu
    rw [set_ne' _ (by omega), set_ne' _ (by omega), set_ne' _ (by omega), set_ne' w (by omega)]
    rw [hv] at hu; cases hu
    exact hc.1
end

/-- What has been copied so far: the first k elements, zeros behind. -/
def filled {α : Type} (xs : List α) (z : α) (k : Nat) (j : Nat) : α := if j < k then xs.getD j z else z
theorem filled_zero {α : Type} (xs : List α) (z : α) : filled xs z 0 = fun _ => z := by funext j; simp [filled]
theorem filled_succ {α : Type} (xs : List α) (z : α) (k : Nat) (hk : k < xs.length) : filled xs z (k + 1) = fun j => if j = k then xs[k] else filled xs z k j := by
  funext j
  unfold filled
  by_cases e : j = k
  · subst e
    rw [if_pos (by omega), if_pos rfl, List.getD_eq_getElem?_getD, List.getElem?_eq_getElem hk]; rfl
  · rw [if_neg e]
    by_cases h : j < k
    · rw [if_pos (by omega), if_pos h]
    · rw [if_neg (by omega), if_neg h]
theorem FlatAt.done {α : Type} {enc : α → List Value} {n B : Nat} {w : World} {xs : List α} {z : α} (h : FlatAt enc n B xs.length (filled xs z xs.length) w) : FlatAt enc n B xs.length (fun j => xs.getD j z) w :=
  h.mono (Nat.le_refl _) fun j hj => by unfold filled; rw [if_pos hj]
end Go.Proofs.YtahbepajeplcmaaGreatDoor

/- Contracts: the text of a clause, in the program. -/
namespace Go.Proofs.YtahbepajeplcmaaGreatDoor
open Go.RowKit

theorem infoStrL : (Tryz.prog.info? 9).map (fun i => (i.zero, i.size, i.bytes)) = some (some (.string ByteArray.empty), 1, 16) := by kernel_rfl
def txEnc (s : List UInt8) : List Value := [.string (ms s)]
theorem wordsAt {B n : Nat} {xs : List (List UInt8)} {w : World} (h : FlatAt txEnc 1 B n (filled xs [] n) w) (hn : xs.length = n) : ∀ (j : Nat) (x : ByteArray), (xs.map ms)[j]? = some x → w.cell? ⟨B, 0 + j, none⟩ = some (.string x) := by
  intro j x hj
  rw [List.getElem?_map] at hj
  cases hx : xs[j]? with
  | none => rw [hx] at hj; cases hj
  | some y =>
    rw [hx] at hj
    simp only [Option.map_some, Option.some.injEq] at hj
    subst hj
    have hjl := (List.getElem?_eq_some_iff.1 hx).1
    have := h.cell (j := j) (by omega) (i := 0) (u := .string (ms y)) (by
      simp only [filled, if_pos (show j < n by omega), List.getD_eq_getElem?_getD, hx]; rfl)
    rw [Nat.mul_one, Nat.add_zero] at this
    rw [Nat.zero_add]
    exact this
theorem map_ms_data (xs : List (List UInt8)) : (xs.map ms).map (·.data.toList) = xs := by
  rw [List.map_map]
  conv => rhs; rw [← List.map_id xs]
  exact List.map_congr_left fun x _ => by simp [ms]
theorem lens_le (k : Nat) : ∀ (xs : List (List UInt8)), (∀ x ∈ xs, x.length ≤ k) → Lib.lens xs ≤ xs.length * k
  | [], _ => by simp [Lib.lens]
  | x :: xs, h => by
    have h1 := lens_le k xs fun y hy => h y (by simp [hy])
    have h2 := h x (by simp)
    simp only [Lib.lens, List.map_cons, List.sum_cons, List.length_cons, Nat.add_mul, Nat.one_mul] at *
    omega
theorem itoa_short2 {z : Int} (h0 : -1000000 ≤ z) (h1 : z ≤ 1000000) : (Lib.itoa z).length ≤ 14 := itoa_short h0 h1
theorem join_short {c : List Int} (h : c ≠ []) (hc : ∀ l ∈ c, -1000000 ≤ l ∧ l ≤ 1000000) : (Lib.join (c.map Lib.itoa) [32]).length ≤ 15 * c.length := by
  have h1 := join_len (xs := c.map Lib.itoa) (by simpa using h) 32
  have h2 := lens_le 14 (c.map Lib.itoa) (fun x hx => by
    obtain ⟨l, hl, rfl⟩ := List.mem_map.1 hx
    exact itoa_short (hc l hl).1 (hc l hl).2)
  rw [List.length_map] at h1 h2
  omega

set_option maxRecDepth 100000 in
set_option maxHeartbeats 4000000 in
theorem digits_any (c : List Int) (A : Option Addr) (cap : Nat) (w : World) (hE : Env w) (hx : IntsAt w A c) (h0 : c ≠ []) (hc : ∀ l ∈ c, -1000000 ≤ l ∧ l ≤ 1000000) (hl : c.length ≤ 1000) :
    Calls Tryz.prog 153 #[.slice A c.length cap, .string ⟨#[32]⟩] w fun e w' => e = .returned (.string (ms (Lib.join (c.map Lib.itoa) [32]))) ∧ Below w.heap.size w w' := by
  obtain ⟨i0, hi, hz0, hz1, hz2⟩ := info_parts infoStrL
  have hEH := Lib.hid hE
  have hN := Lib.hid hx
  have hjs := join_short h0 hc
  clear hE hx
  have hpos : 0 < c.length := List.length_pos_iff.2 h0
  go_enter Tryz.func153, Tryz.ntmps153
  go_wp2_with (at_make; refine wpList_make_full _ rfl _ _ 37 rfl w.heap.size 9 i0 (.string ByteArray.empty) 1 Tryz.underlying37 hi hz0 hz1 .i64 .i64 _ _ c.length rfl rfl rfl rfl ?m1 ?m2 ?m3 ?_)
  case m1 => rw [hz2]; omega
  case m2 => unfold maxLen; omega
  case m3 => exact Nat.le_refl _
  intro w1 hown hgrow
  have hst : Hid (FlatAt txEnc 1 w.heap.size c.length (filled (c.map Lib.itoa) [] 0) w1 ∧ Below w.heap.size w w1) := by
    rw [filled_zero]
    exact ⟨FlatAt.made (z := ([] : List UInt8)) (zc := #[.string ByteArray.empty]) rfl rfl (by rw [Nat.mul_one]; exact hown), (bb w).grown hgrow (Nat.le_refl _) (fun k hk => by cases hk)⟩
  clear hown hgrow
  go_wp2_with fail
  go_loopw [13] (fun i wr => ∃ k : Nat, k ≤ c.length ∧ i = .int .i64 k ∧ Hid (FlatAt txEnc 1 w.heap.size c.length (filled (c.map Lib.itoa) [] k) wr ∧ Below w.heap.size w wr)) (fun i _ => c.length - (intOf i).toNat)
  case atStart => exact ⟨0, Nat.zero_le _, rfl, hst⟩
  case round =>
    obtain ⟨k, hk, rfl, HR⟩ := hrel
    clear hst
    by_cases hlt : k < c.length
    · obtain ⟨b, off, rfl, m0⟩ := (hN.out.grow HR.out.2).at_ k hlt
      have hlt2 : k < (c.map Lib.itoa).length := by rw [List.length_map]; exact hlt
      have hfs := Lib.hid (filled_succ (c.map Lib.itoa) [] k hlt2)
      have hck := hc _ (List.getElem_mem hlt)
      have hg : (c.map Lib.itoa)[k] = Lib.itoa c[k] := List.getElem_map _
      rw [hg] at hfs
      have hEr := Lib.hid (hEH.out.below HR.out.2 (Nat.le_refl _))
      have hcall := Lib.hid (fun W (h : Env W) => itoa_env c[k] (by omega) (by omega) W h)
      clear hg hck
      generalize c[k] = x at *
      go_wp2_with fail
      refine (hcall.out _ hEr.out).mono ?_
      rintro e w2 ⟨rfl, hb2⟩
      have H2 := HR.out.1.grow hb2
      have z0 : (txEnc (filled (c.map Lib.itoa) [] k k))[0]? = some (.string ByteArray.empty) := by simp only [filled, Nat.lt_irrefl, if_false]; rfl
      have y0 := H2.cell hlt z0
      have q0 := H2.frozen hlt z0
      rw [Nat.mul_one, Nat.add_zero] at y0 q0
      have HN := H2.set1 (fun _ => rfl) (k := k) (x := Lib.itoa x) (u0 := .string (ms (Lib.itoa x))) rfl
      rw [← hfs.out] at HN
      have HN2 := Lib.hid (And.intro HN (bst (btr HR.out.2 hb2) (show w.heap.size ≤ (⟨w.heap.size, k, none⟩ : Addr).block by simp) (.string (ms (Lib.itoa x)))))
      clear HR H2 HN z0 hb2 m0 hcall hEr hfs
      go_wp2_with fail
      go_roundw
      case rel => exact ⟨k + 1, by omega, by go_num, HN2⟩
      case measure => simp [intOf]; omega
    · obtain rfl : k = c.length := by omega
      have hcl : (c.map Lib.itoa).length = c.length := List.length_map _
      have hcells := wordsAt HR.out.1 hcl
      have hlm : ((c.map Lib.itoa).map ms).length = c.length := by rw [List.length_map, hcl]
      have hcall := Tryz.strings_Join w.heap.size 0 c.length ((c.map Lib.itoa).map ms) ⟨#[32]⟩ wr hcells (by
        have := HR.out.1.cell (j := 0) hpos (i := 0) (u := .string (ms (Lib.itoa c[0]))) (by
          simp only [filled, if_pos hpos, List.getD_eq_getElem?_getD, List.getElem?_map, List.getElem?_eq_getElem hpos]; rfl)
        exact World.block_lt_of_cell? _ _ this) (by omega) (by omega) (by rw [map_ms_data]; exact Nat.le_trans hjs (by omega))
      rw [hlm, map_ms_data] at hcall
      replace hcall := Lib.hid hcall
      have hB := Lib.hid HR.out.2
      clear HR hcells hlm hcl
      go_wp2_with fail
      refine hcall.out.mono ?_
      rintro e w2 ⟨rfl, hb2⟩
      have hB2 := Lib.hid (btr hB.out (hb2.mono (Nat.le_refl _)))
      clear hb2 hB hcall
      go_wp2_with fail
      go_ret
      exact ⟨rfl, hB2.out⟩

set_option maxHeartbeats 2000000 in
theorem clauseText_any (c : List Int) (A : Option Addr) (cap : Nat) (w : World) (hE : Env w) (hx : IntsAt w A c) (hc : ∀ l ∈ c, -1000000 ≤ l ∧ l ≤ 1000000) (hl : c.length ≤ 1000) :
    Calls Tryz.prog 97 #[.slice A c.length cap] w fun e w' => e = .returned (.string (ms (txtC c))) ∧ Below w.heap.size w w' := by
  by_cases h0 : c = []
  · subst h0
    have hR : Hid (ms (txtC []) = ⟨#[110, 111, 110, 101]⟩) := rfl
    go_enter Tryz.func97, Tryz.ntmps97
    go_wp2_with fail
    go_ret
    exact ⟨ret_str hR.out.symm, bb _⟩
  · have hpos : 0 < c.length := List.length_pos_iff.2 h0
    have h0' : ((c.length : Int) == 0) = false := by rw [beq_eq_false_iff_ne]; omega
    have hn0 : ¬ (c.length : Int) = 0 := by omega
    have hR : Hid (Lib.join (c.map Lib.itoa) [32] = txtC c) := (txtC_ne h0).symm
    have hcall := digits_any c A cap w hE hx h0 hc hl
    rw [hR.out] at hcall
    replace hcall := Lib.hid hcall
    clear hR hc hE hx
    generalize txtC c = t at *
    go_enter Tryz.func97, Tryz.ntmps97
    go_wp2_with fail
    refine hcall.out.mono ?_
    rintro e w1 ⟨rfl, hb1⟩
    replace hb1 := Lib.hid hb1
    go_wp2_with fail
    go_ret
    exact ⟨rfl, hb1.out⟩

/-- The text of a clause and whether it is one. -/
def ctA (vars : Int) (c : List Int) : List UInt8 := if clauseB vars c then txtC c else []
set_option maxHeartbeats 2000000 in
theorem implClauseText_any (vars : Int) (v : Value) (c : List Int) (F : List Nat) (w : World) (hE : Env w) (hx : Ty.int.row false w v c F) :
    Calls Tryz.prog 33 #[.int .i64 vars, v] w fun e w' => e = .returned (.tuple #[.string (ms (ctA vars c)), .bool (clauseB vars c)]) ∧ Below w.heap.size w w' := by
  obtain ⟨A, cap, rfl, hI⟩ := ints_row hx
  obtain ⟨q, hq⟩ : ∃ q, clauseB vars c = q := ⟨_, rfl⟩
  have hcl := Lib.hid (implIsClause_at (w := w) hx hq)
  rw [hq]
  cases q
  · have hR : Hid (ms (ctA vars c) = ⟨#[]⟩) := by unfold Hid ctA; rw [hq]; rfl
    rw [hR.out]
    go_enter Tryz.func33, Tryz.ntmps33
    go_wp2_with fail
    refine hcl.out.mono ?_
    rintro e w1 ⟨rfl, hb1⟩
    replace hb1 := Lib.hid hb1
    go_wp2_with fail
    go_ret2
    exact ⟨rfl, hb1.out⟩
  · have hR : Hid (ctA vars c = txtC c) := by unfold Hid ctA; rw [hq]; rfl
    rw [hR.out]
    have hs := clause_small hq
    have hl := clause_len hq
    have ht := Lib.hid (fun W (h : Below w.heap.size w W) => clauseText_any c A cap W (hE.grow h) (hI.grow h) (fun l h => by have := hs l h; omega) (by omega))
    clear hs hE hI
    generalize txtC c = t at *
    go_enter Tryz.func33, Tryz.ntmps33
    go_wp2_with fail
    refine hcl.out.mono ?_
    rintro e w1 ⟨rfl, hb1⟩
    have ht2 := Lib.hid (ht.out _ hb1)
    replace hb1 := Lib.hid hb1
    clear ht hcl
    go_wp2_with fail
    refine ht2.out.mono ?_
    rintro e w2 ⟨rfl, hb2⟩
    have hB := Lib.hid (btr hb1.out hb2)
    clear hb2
    go_wp2_with fail
    go_ret2
    exact ⟨rfl, hB.out⟩
end Go.Proofs.YtahbepajeplcmaaGreatDoor

/- Contracts: words read as numbers, and the clause of a text, in the program. -/
namespace Go.Proofs.YtahbepajeplcmaaGreatDoor
open Go.RowKit

/-- Words in memory. -/
def WordsAt (w : World) (B : Nat) (xs : List ByteArray) : Prop := ∀ j (hj : j < xs.length), w.cell? ⟨B, j, none⟩ = some (.string xs[j])
theorem WordsAt.grow {w w' : World} {B : Nat} {xs : List ByteArray} (h : WordsAt w B xs) (hb : Below w.heap.size w w') : WordsAt w' B xs := fun j hj => (hb.cell (World.block_lt_of_cell? _ _ (h j hj))).trans (h j hj)
/-- strings.Split at one byte. -/
theorem split_any (s : ByteArray) (c : UInt8) (w : World) (hE : Env w) (hs : s.size ≤ 1000000) :
    Calls Tryz.prog 65 #[.string s, .string ⟨#[c]⟩] w fun e w' => ∃ (g : Nat) (xs : List ByteArray), e = .returned (.slice (some ⟨g, 0, none⟩) xs.length xs.length) ∧ xs.map bl = splitP c.toNat (bl s) ∧ WordsAt w' g xs ∧ Below w.heap.size w w' ∧ g = w.heap.size := by
  obtain ⟨m, hm⟩ := hE.maxlen
  obtain ⟨xs, hxs⟩ : ∃ xs, Lib.splitB ⟨#[c]⟩ 0 (Lib.countB s ⟨#[c]⟩) s = xs := ⟨_, rfl⟩
  have hlen : xs.length = Lib.countB s ⟨#[c]⟩ + 1 := by rw [← hxs]; exact Lib.splitB_all ⟨#[c]⟩ (Nat.le_refl 1) 0 _ _ rfl
  have hmap : xs.map bl = splitP c.toNat (bl s) := by
    rw [← hxs]
    have h := Lib.splitB_data ⟨#[c]⟩ 0 (Lib.countB s ⟨#[c]⟩) s
    have h1 := splitK_one c (bl s).length (bl s) (Nat.le_refl _)
    exact h.trans h1
  have hC := (Tryz.strings_Split s ⟨#[c]⟩ m w (by omega) hm (Nat.le_refl 1))
  rw [hxs, ← hlen] at hC
  refine hC.mono ?_
  rintro e w1 ⟨rfl, rfl⟩
  refine ⟨w.heap.size, xs, rfl, hmap, fun j hj => ?_, bal (bb _) _, rfl⟩
  have := heap_alloc_new w (.cells (xs.map Value.string).toArray 9)
  rw [cell_of_row _ _ _ _ _ _ this]
  simp [hj]

theorem infoIntL : (Tryz.prog.info? 3).map (fun i => (i.zero, i.size, i.bytes)) = some (some (.int .i64 0), 1, 8) := by kernel_rfl
def PIPost (ps : List (List UInt8)) (w : World) (e : Ending) (w' : World) : Prop :=
  (numsOk ps = true ∧ ∃ B c, e = .returned (.tuple #[.slice B ps.length c, .bool true]) ∧ Sp w w' [Own 3 1 (.slice B ps.length c) ps.length ((numsV ps).map (.int .i64))]) ∨
    (numsOk ps = false ∧ e = .returned (.tuple #[.slice none 0 0, .bool false]) ∧ Below w.heap.size w w')
theorem nums_not {ps : List (List UInt8)} {k : Nat} (hk : k < ps.length) (h : (numB ps[k]).2 = false) : numsOk ps = false := by
  unfold numsOk
  rw [List.all_eq_false]
  exact ⟨_, List.getElem_mem hk, by rw [h]; simp⟩
theorem numsV_len (ps : List (List UInt8)) : (numsV ps).length = ps.length := by unfold numsV; rw [List.length_map]

set_option maxRecDepth 100000 in
set_option maxHeartbeats 4000000 in
theorem parseInts_any (xs : List ByteArray) (g : Nat) (o cap : Nat) (w : World) (hE : NumEnv w) (hx : ∀ j (hj : j < xs.length), w.cell? ⟨g, o + j, none⟩ = some (.string xs[j])) (hs : ∀ x ∈ xs, x.size ≤ 1000000) (hl : xs.length ≤ 1000000) :
    Calls Tryz.prog 67 #[.slice (some ⟨g, o, none⟩) xs.length cap] w (PIPost (xs.map bl) w) := by
  obtain ⟨i0, hi, hz0, hz1, hz2⟩ := info_parts infoIntL
  replace hE := Lib.hid hE
  replace hx := Lib.hid hx
  have hpl : (xs.map bl).length = xs.length := List.length_map _
  obtain ⟨ps, hps⟩ : ∃ ps, xs.map bl = ps := ⟨_, rfl⟩
  rw [hps] at hpl ⊢
  go_enter Tryz.func67, Tryz.ntmps67
  go_wp2_with (at_make; refine wpList_make_own _ rfl _ _ 43 rfl w.heap.size 3 i0 (.int .i64 0) 1 Tryz.underlying43 hi hz0 hz1 .i64 .i64 _ xs.length rfl rfl rfl ?m1 ?m2 ?m3 ?_)
  case m1 => rw [hz2]; omega
  case m2 => unfold maxLen; omega
  case m3 => exact Nat.le_refl _
  intro w1 hown hgrow
  have S1 : Hid (Sp w w1 [Own 3 1 (.slice (some ⟨w.heap.size, 0, none⟩) 0 xs.length) 0 []]) := (Sp.start w).own_call ((bb w).grown hgrow (Nat.le_refl _) (fun k hk => by cases hk)) hown
  clear hown hgrow
  go_wp2_with fail
  go_loopw [4, 14] (fun vo vi wr => ∃ (k : Nat) (B : Option Addr) (c : Nat) (zs : List Int), k ≤ xs.length ∧ zs.length = k ∧ vi = .int .i64 k ∧ vo = .slice B zs.length c ∧ Hid (numsOk (ps.take k) = true ∧ zs = numsV (ps.take k)) ∧ Hid (Sp w wr [Own 3 1 (.slice B zs.length c) zs.length (zs.map (.int .i64))])) (fun _ vi _ => xs.length - (intOf vi).toNat)
  case atStart => exact ⟨0, _, _, [], Nat.zero_le _, rfl, rfl, rfl, ⟨rfl, rfl⟩, S1⟩
  case round =>
    obtain ⟨k, B, c, zs, hk, hzl, rfl, rfl, HD, HS⟩ := hrel
    clear S1
    by_cases hlt : k < xs.length
    · have hkp : k < ps.length := by omega
      have m0 := (HS.out.below.cell (World.block_lt_of_cell? _ _ (hx.out k hlt))).trans (hx.out k hlt)
      have hsz := hs _ (List.getElem_mem hlt)
      have hpk : bl xs[k] = ps[k] := by simp only [← hps, List.getElem_map]
      have hcall := implParse_any xs[k] wr (hE.out.grow HS.out.below) hsz
      rw [hpk] at hcall
      have hst := nums_step hkp HD.out.1
      have hno := nums_not hkp
      generalize xs[k] = x at *
      generalize hzz : numB ps[k] = zz at *
      obtain ⟨z, q⟩ := zz
      dsimp only at hcall hst hno
      replace hcall := Lib.hid hcall
      replace hzl := Lib.hid hzl
      clear hpk hsz
      cases q
      · have hR := Lib.hid (hno rfl)
        clear hno hst
        go_wp2_with fail
        refine hcall.out.mono ?_
        rintro e w2 ⟨rfl, hb2⟩
        have hB := Lib.hid (HS.out.grow hb2).below
        clear hb2 HS hcall m0
        go_wp2_with fail
        go_ret2
        exact .inr ⟨hR.out, rfl, hB.out⟩
      · have hst2 := Lib.hid (hst rfl)
        clear hno hst
        go_wp2_with fail
        refine hcall.out.mono ?_
        rintro e w2 ⟨rfl, hb2⟩
        have S2 := (HS.out.grow hb2).alloc_box #[.int .i64 z] 3
        have kB := S2.cell (i := 0) rfl (o := 0) rfl
        replace S2 := Lib.hid S2
        clear hb2 HS hcall m0
        have hz6 : zs.length ≤ 1000000 := by have := hzl.out; omega
        go_wp2_with (at_builtin; refine wpList_append_src rfl _ _ rfl Tryz.underlying43 hi hz0 hz1 hz2 rfl (by decide) _ _ _ rfl (S2.out.own (i := 1) rfl) _ 1 1 [.int .i64 z] rfl (Src.one kB) (by simp [Value.oneCell']) ?c3 ?c4 ?_)
        case c3 => unfold maxLen; omega
        case c4 => omega
        intro vY wY hownY hgY hatY
        have S3 := (S2.out.own_push (i := 1) rfl (bb _) hownY hgY (by simpa using hatY)).tail
        obtain ⟨aY, cY, rfl⟩ := own_slice hownY
        have S4 : Hid (Sp w wY [Own 3 1 (.slice aY (zs ++ [z]).length cY) (zs ++ [z]).length ((zs ++ [z]).map (.int .i64))]) := by
          have e1 : (zs ++ [z]).length = zs.length + 1 := by simp
          unfold Hid
          rw [e1, List.map_append]
          exact S3
        have hlen : zs.length + 1 = (zs ++ [z]).length := by simp
        have HD2 : Hid (numsOk (ps.take (k + 1)) = true ∧ zs ++ [z] = numsV (ps.take (k + 1))) := ⟨hst2.out.1, by rw [hst2.out.2, HD.out.2]⟩
        have hzl2 : (zs ++ [z]).length = k + 1 := by rw [← hlen, hzl.out]
        clear S2 S3 kB hownY hgY hatY HD hst2
        rw [hlen]
        generalize zs ++ [z] = zs2 at *
        clear hlen hz6
        replace hzl2 := Lib.hid hzl2
        go_wp2_with fail
        go_roundw
        case rel => exact ⟨k + 1, aY, cY, zs2, by omega, hzl2.out, by go_num, rfl, HD2, S4⟩
        case measure => simp [intOf]; omega
    · obtain rfl : k = xs.length := by omega
      have htk : ps.take xs.length = ps := List.take_of_length_le (by omega)
      have hR := HD.out
      rw [htk] at hR
      have hf : Hid (∀ e, e = Ending.returned (.tuple #[.slice B zs.length c, .bool true]) → PIPost ps w e wr) := fun e he => by
        refine .inl ⟨hR.1, B, c, ?_, ?_⟩
        · rw [he, hzl, hpl]
        · have := HS.out
          rw [hzl, hR.2, ← hpl] at this
          exact this
      replace hzl := Lib.hid hzl
      clear HD HS hR
      go_wp2_with fail
      go_ret2
      exact hf.out _ rfl

/-- A clause of its own and whether it is one. -/
def PCPost (r : List Int × Bool) (w : World) (e : Ending) (w' : World) : Prop :=
  ∃ B c, e = .returned (.tuple #[.slice B r.1.length c, .bool r.2]) ∧ Sp w w' [Own 3 1 (.slice B r.1.length c) r.1.length (r.1.map (.int .i64))]
theorem pc_nil {r : List Int × Bool} {q : Bool} {w w' : World} (h : r = ([], q)) (hb : Below w.heap.size w w') : PCPost r w (.returned (.tuple #[.slice none 0 0, .bool q])) w' := by
  subst h
  exact ⟨none, 0, rfl, (Sp.of_below hb).own_nil _ _⟩
theorem nums_i64 {ps : List (List UInt8)} (h : numsOk ps = true) : ∀ z ∈ numsV ps, I64 z := by
  intro z hz
  obtain ⟨p, hp, rfl⟩ := List.mem_map.1 hz
  have := numB_back (p := p) (List.all_eq_true.1 h p hp)
  unfold I64; omega

set_option maxRecDepth 100000 in
set_option maxHeartbeats 4000000 in
theorem implParseClause_any (vars : Int) (s : ByteArray) (w : World) (hE : NumEnv w) (hs : s.size ≤ 900000) :
    Calls Tryz.prog 31 #[.int .i64 vars, .string s] w (PCPost (parC vars (bl s)) w) := by
  by_cases h0 : bl s = noneT
  · have hR : Hid (parC vars (bl s) = ([], inB vars 0 12)) := parC_none h0
    have hc : ((bl s) == [110, 111, 110, 101]) = true := by rw [h0]; rfl
    have hs0 : s = ⟨#[110, 111, 110, 101]⟩ := by rw [← ms_bl s, h0]; rfl
    subst hs0
    go_enter Tryz.func31, Tryz.ntmps31
    go_wp2_with (go_at_call 85; refine (varsOk_any _ _).mono ?_; rintro e w1 ⟨rfl, rfl⟩)
    go_ret2
    exact pc_nil hR.out (bb _)
  · have hne : ((bl s) == [110, 111, 110, 101]) = false := beq_eq_false_iff_ne.2 h0
    have hsp := split_any s 32 w hE.env (by omega)
    have hpar := Lib.hid (fun ps (hp : splitP 32 (bl s) = ps) (ho : numsOk ps = true) => par_clause (vars := vars) h0 hp ho)
    have hpar2 : Hid (∀ ps, splitP 32 (bl s) = ps → numsOk ps = false → parC vars (bl s) = ([], false)) := fun ps hp ho => by rw [parC_some h0, hp, ho]; rfl
    have hsl := splitP_len 32 (bl s)
    rw [bl_length] at hsl
    replace hsp := Lib.hid hsp
    replace hE := Lib.hid hE
    obtain ⟨R, hRR⟩ : ∃ R, parC vars (bl s) = R := ⟨_, rfl⟩
    rw [hRR] at hpar hpar2 ⊢
    have hpsz : Hid (∀ x : ByteArray, bl x ∈ splitP 32 (bl s) → x.size ≤ 1000000) := fun x hxm => by
      have := split_part_len 32 (bl s) _ hxm
      rw [bl_length, bl_length] at this
      omega
    clear hRR
    go_enter Tryz.func31, Tryz.ntmps31
    go_wp2_with fail
    refine hsp.out.mono ?_
    rintro e w1 ⟨g, xs, rfl, hmap, hW, hb1, -⟩
    have hmap2 : xs.map bl = splitP 32 (bl s) := hmap
    have hxl : xs.length ≤ 1000000 := by
      have := congrArg List.length hmap2
      rw [List.length_map] at this
      omega
    have hpi := Lib.hid (parseInts_any xs g 0 xs.length w1 (hE.out.grow hb1) (fun j hj => by rw [Nat.zero_add]; exact hW j hj) (fun x hx => hpsz.out x (by rw [← hmap2]; exact List.mem_map.2 ⟨x, hx, rfl⟩)) hxl)
    rw [hmap2] at hpi
    replace hb1 := Lib.hid hb1
    clear hsp hW hmap hmap2 hpsz hsl
    generalize hps : splitP 32 (bl s) = ps at *
    go_wp2_with fail
    refine hpi.out.mono ?_
    rintro e w2 (⟨ho, B, c, rfl, S2⟩ | ⟨ho, rfl, hb2⟩)
    · have hP := Lib.hid (hpar.out ps rfl ho)
      have S3 := (Sp.of_below hb1.out).seq S2
      have hvl := numsV_len ps
      rw [← hvl] at S3
      obtain ⟨F, hr, -, -⟩ := own_row (S3.own (i := 0) rfl) (nums_i64 ho)
      obtain ⟨q, hq⟩ : ∃ q, clauseB vars (numsV ps) = q := ⟨_, rfl⟩
      have hcl := implIsClause_at (Ty.row_down hr) hq
      rw [hq] at hP
      replace hcl := Lib.hid hcl
      replace S3 := Lib.hid S3
      rw [← hvl]
      clear hpar hpar2 hpi S2 hr ho hb1 hvl hps
      generalize numsV ps = zs at *
      cases q
      · go_wp2_with fail
        refine hcl.out.mono ?_
        rintro e w3 ⟨rfl, hb3⟩
        have hB := Lib.hid (S3.out.grow hb3).below
        clear hb3 S3 hcl
        go_wp2_with fail
        go_ret2
        exact pc_nil (hP.out.trans (if_neg (by decide))) hB.out
      · go_wp2_with fail
        refine hcl.out.mono ?_
        rintro e w3 ⟨rfl, hb3⟩
        have S4 := Lib.hid (S3.out.grow hb3)
        clear hb3 S3 hcl
        go_wp2_with fail
        go_ret2
        have e1 : R = (zs, true) := hP.out.trans (if_pos trivial)
        subst e1
        exact ⟨_, _, rfl, S4.out⟩
    · have hP := Lib.hid (hpar2.out ps rfl ho)
      have hB := Lib.hid (btr hb1.out hb2)
      clear hpar hpar2 hpi hb1 hb2
      go_wp2_with fail
      go_ret2
      exact pc_nil hP.out hB.out
end Go.Proofs.YtahbepajeplcmaaGreatDoor

/- Contract: splitting in the reference. Printed by gen_txt.py. -/
namespace Go.Proofs.YtahbepajeplcmaaGreatDoor
open Go.RowKit

theorem infoStr : (Tryz.prog.info? 9).map (fun i => (i.zero, i.size, i.bytes)) = some (some (.string ByteArray.empty), 1, 16) := by kernel_rfl

/-- The result of 'l1Split': a row of its own with the pieces. -/
def SplitPost (w : World) (l : List UInt8) (b : Int) (e : Ending) (w' : World) : Prop :=
  ∃ (g cap : Nat) (ps : List ByteArray), e = .returned (.slice (some ⟨g, 0, none⟩) ps.length cap) ∧ 0 < ps.length ∧ ps.length ≤ l.length + 1 ∧ ps.length ≤ cap ∧ w.heap.size ≤ g ∧ g < w'.heap.size ∧
    (∀ j (h : j < ps.length), w'.cell? ⟨g, j, none⟩ = some (.string ps[j])) ∧ ps.map bl = splitP b l ∧ Below w.heap.size w w'

theorem extract_piece (s : ByteArray) (from_ k : Nat) : bl (s.extract from_ k) = ((bl s).drop from_).take (k - from_) := bl_extract s from_ k

/-- What has been split off so far. -/
def SplitRel (s : ByteArray) (b : Int) (w wr : World) (v : Value) (fr k : Nat) (ps : List ByteArray) : Prop :=
  fr ≤ k ∧ k ≤ s.size ∧ ps.length ≤ fr ∧ wr.ownsRow w.heap.size 9 1 v ps.length (ps.map Value.string) ∧ splitP b (bl s) = ps.map bl ++ splitP b ((bl s).drop fr) ∧ hasB (((bl s).drop fr).take (k - fr)) b = false ∧ Below w.heap.size w wr
theorem SplitRel.start (s : ByteArray) (b : Int) (w : World) (o : Obj) (v : Value) (h : (w.alloc o).ownsRow w.heap.size 9 1 v 0 []) : SplitRel s b w (w.alloc o) v 0 0 [] :=
  ⟨Nat.le_refl _, Nat.zero_le _, Nat.le_refl _, h, rfl, by simp [hasB], bal (bb _) _⟩
theorem take_more (s : ByteArray) (fr k : Nat) (hf : fr ≤ k) (h : k < s.size) : ((bl s).drop fr).take (k + 1 - fr) = ((bl s).drop fr).take (k - fr) ++ [s[k]] := by
  have e : k + 1 - fr = (k - fr) + 1 := by omega
  rw [e, List.take_succ_eq_append_getElem (by rw [List.length_drop, bl_length]; omega)]
  congr 2
  rw [List.getElem_drop]
  have e2 : fr + (k - fr) = k := by omega
  simp only [e2]
  exact bl_get s k h
theorem SplitRel.miss {s : ByteArray} {b : Int} {w wr : World} {v : Value} {fr k : Nat} {ps : List ByteArray} (h : SplitRel s b w wr v fr k ps) (hk : k < s.size) (hb : ((s[k].toNat : Int) == b) = false) : SplitRel s b w wr v fr (k + 1) ps := by
  obtain ⟨h1, h2, h3, h4, h5, h6, h7⟩ := h
  exact ⟨by omega, by omega, h3, h4, h5, by rw [take_more s fr k h1 hk, hasB_snoc, h6, hb]; rfl, h7⟩
theorem SplitRel.hit {s : ByteArray} {b : Int} {w wr w1 : World} {v v' : Value} {fr k : Nat} {ps : List ByteArray} (h : SplitRel s b w wr v fr k ps) (hk : k < s.size) (hb : ((s[k].toNat : Int) == b) = true)
    (hown : w1.ownsRow w.heap.size 9 1 v' (ps.length + 1) (ps.map Value.string ++ [.string (s.extract fr k)])) (hB : Below w.heap.size w w1) : SplitRel s b w w1 v' (k + 1) (k + 1) (ps ++ [s.extract fr k]) := by
  obtain ⟨h1, h2, h3, h4, h5, h6, h7⟩ := h
  refine ⟨Nat.le_refl _, by omega, by simp; omega, by simpa using hown, ?_, by simp [hasB], hB⟩
  have e : (bl s).drop fr = ((bl s).drop fr).take (k - fr) ++ s[k] :: (bl s).drop (k + 1) := by
    have e1 := List.take_append_drop (k - fr) ((bl s).drop fr)
    rw [List.drop_drop, show fr + (k - fr) = k by omega] at e1
    rw [List.drop_eq_getElem_cons (i := k) (by rw [bl_length]; exact hk), bl_get s k hk] at e1
    exact e1.symm
  rw [h5, e, splitP_some h6 hb, List.map_append, List.append_assoc]
  congr 1
  show _ = [bl (s.extract fr k)] ++ _
  rw [extract_piece]; rfl
theorem SplitRel.done {s : ByteArray} {b : Int} {w wr w1 : World} {v v' : Value} {fr : Nat} {ps : List ByteArray} (h : SplitRel s b w wr v fr s.size ps)
    (hown : w1.ownsRow w.heap.size 9 1 v' (ps.length + 1) (ps.map Value.string ++ [.string (s.extract fr s.size)])) (hB : Below w.heap.size w w1) : SplitPost w (bl s) b (.returned v') w1 := by
  obtain ⟨h1, h2, h3, h4, h5, h6, h7⟩ := h
  have e : ((bl s).drop fr).take (s.size - fr) = (bl s).drop fr := List.take_of_length_le (by rw [List.length_drop, bl_length]; exact Nat.le_refl _)
  rw [e] at h6
  rw [splitP_none h6] at h5
  have hown2 : w1.ownsRow w.heap.size 9 1 v' (ps ++ [s.extract fr s.size]).length ((ps ++ [s.extract fr s.size]).map Value.string) := by simpa using hown
  obtain ⟨g, cap, rfl⟩ := Joins.ownsRow_form hown2 (by simp)
  have hlt := hown2.lt g rfl
  refine ⟨g, cap, ps ++ [s.extract fr s.size], rfl, by simp, by simp [bl_length]; omega, ?_, hlt.1, hlt.2, fun j hj => ?_, ?_, hB⟩
  · obtain ⟨_, ⟨e1, _⟩ | ⟨_, _, _, e1, _, _, hc, _⟩⟩ := hown2
    · cases e1
    · simp only [Value.slice.injEq] at e1; rw [e1.2.2]; exact hc
  · rw [hown2.cellAt j (by simpa using hj), List.getElem?_map, List.getElem?_eq_getElem hj]; rfl
  · rw [h5, List.map_append]; congr 1
    show [bl (s.extract fr s.size)] = _
    rw [extract_piece, e]

set_option maxHeartbeats 2000000 in
theorem l1Split_any (s : ByteArray) (b : Int) (w : World) (hs : s.size ≤ 1000000000000) :
    Calls Tryz.prog 107 #[.string s, .int .u8 b] w (SplitPost w (bl s) b) := by
  obtain ⟨i0, hi, hz0, hz1, hz2⟩ := info_parts infoStr
  go_enter Tryz.func107, Tryz.ntmps107
  go_wp2_with fail
  go_loopw [5, 6, 7] (fun v f i wr => ∃ (fr k : Nat) (ps : List ByteArray), f = .int .i64 fr ∧ i = .int .i64 k ∧ SplitRel s b w wr v fr k ps) (fun _ _ i _ => s.size - (intOf i).toNat)
  case atStart => exact ⟨0, 0, [], rfl, rfl, SplitRel.start s b w _ _ (World.ownsRow_made w #[] 0 (Nat.le_refl _) (by decide) rfl)⟩
  case round =>
    obtain ⟨fr, k, ps, rfl, rfl, HR⟩ := hrel
    obtain ⟨h1, h2, h3, hown, _, _, hB⟩ := id HR
    have hsz := hB.size
    replace HR := (show Hid (SplitRel s b w wr u5 fr k ps) from HR)
    by_cases hlt : k < s.size
    · by_cases hb : ((s[k].toNat : Int) == b) = true
      · go_wp2_with (at_builtin; refine wpList_append_own _ rfl _ _ 37 rfl w.heap.size 9 i0 (.string ByteArray.empty) 1 16 Tryz.underlying37 hi hz0 hz1 hz2 rfl (by decide) _ _ _ rfl (hown.alloc _) ⟨wr.heap.size, 0, none⟩ 1 1 [.string (s.extract fr k)] rfl rfl ?c1 ?c2 ?c3 ?c4 ?c5 ?_)
        case c1 =>
          intro j u hj
          match j, hj with
          | 0, hj => simp at hj; subst hj; simp [Addr.add]
        case c2 => intro u hu; simp at hu; subst hu; rfl
        case c3 => unfold maxLen; omega
        case c4 => omega
        case c5 => simp; omega
        intro v' w1 hown' hgrow _
        have hB1 : Below w.heap.size w w1 := (hB.alloc hsz _).grown hgrow (by simp; omega) (fun q hq => (hown.lt q hq).1)
        have HN := HR.out.hit hlt hb hown' hB1
        clear hown' hgrow hown hB
        replace HN := (show Hid (SplitRel s b w w1 v' (k + 1) (k + 1) (ps ++ [s.extract fr k])) from HN)
        go_wp2
        go_roundw
        case rel => exact ⟨k + 1, k + 1, _, by go_num, by go_num, HN.out⟩
        case measure => simp [intOf]; omega
      · have hb' : ((s[k].toNat : Int) == b) = false := by simpa using hb
        have HN := HR.out.miss hlt hb'
        replace HN := (show Hid (SplitRel s b w wr u5 fr (k + 1) ps) from HN)
        clear hb
        go_wp2_with fail
        go_roundw
        case rel => exact ⟨fr, k + 1, _, by go_num, by go_num, HN.out⟩
        case measure => simp [intOf]; omega
    · obtain rfl : k = s.size := by omega
      go_wp2_with (at_builtin; refine wpList_append_own _ rfl _ _ 37 rfl w.heap.size 9 i0 (.string ByteArray.empty) 1 16 Tryz.underlying37 hi hz0 hz1 hz2 rfl (by decide) _ _ _ rfl (hown.alloc _) ⟨wr.heap.size, 0, none⟩ 1 1 [.string (s.extract fr s.size)] rfl rfl ?d1 ?d2 ?d3 ?d4 ?d5 ?_)
      case d1 =>
        intro j u hj
        match j, hj with
        | 0, hj => simp at hj; subst hj; simp [Addr.add]
      case d2 => intro u hu; simp at hu; subst hu; rfl
      case d3 => unfold maxLen; omega
      case d4 => omega
      case d5 => simp; omega
      intro v' w1 hown' hgrow _
      have hB1 : Below w.heap.size w w1 := (hB.alloc hsz _).grown hgrow (by simp; omega) (fun q hq => (hown.lt q hq).1)
      have HN := HR.out.done hown' hB1
      clear hown' hgrow hown hB
      replace HN := (show Hid (SplitPost w (bl s) b (.returned v') w1) from HN)
      go_wp2_with fail
      go_ret
      exact HN.out
end Go.Proofs.YtahbepajeplcmaaGreatDoor

/- Contracts: the text of a clause, and the clause of a text, in the reference. Printed by gen_ltd.py. -/
namespace Go.Proofs.YtahbepajeplcmaaGreatDoor
open Go.RowKit

set_option maxRecDepth 100000 in
set_option maxHeartbeats 4000000 in
theorem l2Text_any (c : List Int) (hc : Within 1000000 c) (hl : c.length ≤ 100) (A : Option Addr) (cap : Nat) (w : World) (hx : IntsAt w A c) :
    Calls Tryz.prog 90 #[.slice A c.length cap] w fun e w' => e = .returned (.string (ms (txtC c))) ∧ Below w.heap.size w w' := by
  have hN := Lib.hid hx
  clear hx
  by_cases h0 : c.length = 0
  · have h0' : (c.length : Int) = 0 := by omega
    have hce : c = [] := List.length_eq_zero_iff.1 h0
    have hR : Hid (ms (txtC c) = ⟨#[110, 111, 110, 101]⟩) := by rw [hce]; rfl
    replace h0 := Lib.hid h0
    go_enter Tryz.func90, Tryz.ntmps90
    go_wp2_with fail
    go_ret
    exact ⟨ret_str hR.out.symm, bb _⟩
  · have h1 : 0 < c.length := by omega
    have h0' : ((c.length : Int) == 0) = false := by rw [beq_eq_false_iff_ne]; omega
    obtain ⟨b, off, rfl, m0⟩ := hN.out.at_ 0 h1
    have hb0 := hc _ (List.getElem_mem h1)
    rw [Nat.add_zero] at m0
    have hj1 : Hid (ms (Lib.itoa c[0]) = ms (Lib.join ((c.take 1).map Lib.itoa) [32])) := by
      unfold Hid
      obtain ⟨l, r, rfl⟩ := List.exists_cons_of_ne_nil (List.length_pos_iff.1 h1)
      simp [Lib.join_one]
    have hce : c ≠ [] := List.length_pos_iff.1 h1
    generalize c[0] = x0 at *
    clear h0
    go_enter Tryz.func90, Tryz.ntmps90
    go_wp2_with fail
    refine (l1Num_any x0 _ (by omega) (by omega)).mono ?_
    rintro e w1 ⟨rfl, hb1⟩
    have hsz : (ms (Lib.itoa x0)).size ≤ 14 := by rw [ms_size]; exact itoa_short hb0.1 hb0.2
    generalize ms (Lib.itoa x0) = t0 at *
    have HB0 := Lib.hid hb1
    clear hb1 m0 hb0
    go_wp2_with fail
    go_loopw [3, 4] (fun vs vi wr => ∃ (k : Nat) (t : ByteArray), k ≤ c.length ∧ 1 ≤ k ∧ vi = .int .i64 k ∧ vs = .string t ∧ t.size ≤ 20 * k ∧ Hid (t = ms (Lib.join ((c.take k).map Lib.itoa) [32])) ∧ Hid (Below w.heap.size w wr)) (fun _ vi _ => c.length - (intOf vi).toNat)
    case atStart => exact ⟨1, t0, h1, Nat.le_refl _, rfl, rfl, by omega, hj1, HB0⟩
    case round =>
      obtain ⟨k, t, hk, hk1, rfl, rfl, hts, HT, HB⟩ := hrel
      clear HB0
      by_cases hlt : k < c.length
      · obtain ⟨b', off', e', m0⟩ := (hN.out.grow HB.out).at_ k hlt
        cases e'
        have hb0 := hc _ (List.getElem_mem hlt)
        have hjn : Hid (∀ t2 : ByteArray, t2 = ms (bl (ms (bl t ++ bl ⟨#[32]⟩)) ++ bl (ms (Lib.itoa c[k]))) → t2 = ms (Lib.join ((c.take (k + 1)).map Lib.itoa) [32])) := fun t2 e => by
          rw [e, HT.out, List.take_succ_eq_append_getElem hlt, List.map_append, List.map_singleton, join_snoc (by simp; exact ⟨by omega, hce⟩)]
          simp [bl_ms, bl_lit]
        generalize c[k] = x at *
        obtain ⟨t1, ht1⟩ : ∃ t1, ms (bl t ++ bl ⟨#[32]⟩) = t1 := ⟨_, rfl⟩
        have hs1 : t1.size ≤ 20 * k + 1 := by
          rw [← ht1, ms_size, List.length_append, bl_length, bl_length]
          have : (⟨#[32]⟩ : ByteArray).size = 1 := rfl
          omega
        have a1 := fun w' => run_add (P := Tryz.prog) w' t ⟨#[32]⟩ (by have : (⟨#[32]⟩ : ByteArray).size = 1 := rfl; omega)
        rw [ht1] at a1 hjn
        clear ht1
        go_wp2_with fail
        refine (l1Num_any x _ (by omega) (by omega)).mono ?_
        rintro e w2 ⟨rfl, hb2⟩
        have hsz2 : (ms (Lib.itoa x)).size ≤ 14 := by rw [ms_size]; exact itoa_short hb0.1 hb0.2
        generalize ms (Lib.itoa x) = u at *
        obtain ⟨t2, ht2⟩ : ∃ t2, ms (bl t1 ++ bl u) = t2 := ⟨_, rfl⟩
        have hs2 : t2.size ≤ 20 * (k + 1) := by
          rw [← ht2, ms_size, List.length_append, bl_length, bl_length]
          omega
        have a2 := fun w' => run_add (P := Tryz.prog) w' t1 u (by omega)
        rw [ht2] at a2
        have HT2 := Lib.hid (hjn.out t2 ht2.symm)
        have HB2 := Lib.hid (btr HB.out hb2)
        clear ht2 HB hb2 hb0 m0 a1 hjn HT
        go_wp2_with fail
        go_roundw
        case rel => exact ⟨k + 1, t2, by omega, by omega, by go_num, rfl, hs2, HT2, HB2⟩
        case measure => simp [intOf]; omega
      · obtain rfl : k = c.length := by omega
        go_wp2_with fail
        go_ret
        exact ⟨ret_str (by rw [HT.out, List.take_length, txtC_ne hce]), HB.out⟩

set_option maxHeartbeats 2000000 in
theorem specClauseText_any (vars : Int) (v : Value) (c : List Int) (F : List Nat) (w : World) (hx : Ty.int.row false w v c F) :
    Calls Tryz.prog 35 #[.int .i64 vars, v] w fun e w' => e = .returned (.tuple #[.string (ms (ctA vars c)), .bool (clauseB vars c)]) ∧ Below w.heap.size w w' := by
  obtain ⟨A, cap, rfl, hI⟩ := ints_row hx
  obtain ⟨q, hq⟩ : ∃ q, clauseB vars c = q := ⟨_, rfl⟩
  have hcl := Lib.hid (l2Clause_at (w := w) hx hq)
  rw [hq]
  cases q
  · have hR : Hid (ms (ctA vars c) = ⟨#[]⟩) := by unfold Hid ctA; rw [hq]; rfl
    rw [hR.out]
    go_enter Tryz.func35, Tryz.ntmps35
    go_wp2_with fail
    refine hcl.out.mono ?_
    rintro e w1 ⟨rfl, hb1⟩
    replace hb1 := Lib.hid hb1
    go_wp2_with fail
    go_ret2
    exact ⟨rfl, hb1.out⟩
  · have hR : Hid (ctA vars c = txtC c) := by unfold Hid ctA; rw [hq]; rfl
    rw [hR.out]
    have hs := clause_small hq
    have hl := clause_len hq
    have ht := Lib.hid (fun W (h : Below w.heap.size w W) => l2Text_any c (fun l hl => by have := hs l hl; omega) (by omega) A cap W (hI.grow h))
    clear hs hI
    generalize txtC c = t at *
    go_enter Tryz.func35, Tryz.ntmps35
    go_wp2_with fail
    refine hcl.out.mono ?_
    rintro e w1 ⟨rfl, hb1⟩
    have ht2 := Lib.hid (ht.out _ hb1)
    replace hb1 := Lib.hid hb1
    clear ht hcl
    go_wp2_with fail
    refine ht2.out.mono ?_
    rintro e w2 ⟨rfl, hb2⟩
    have hB := Lib.hid (btr hb1.out hb2)
    clear hb2
    go_wp2_with fail
    go_ret2
    exact ⟨rfl, hB.out⟩
end Go.Proofs.YtahbepajeplcmaaGreatDoor

/- Contracts: the text of a Cnf, on both sides. -/
namespace Go.Proofs.YtahbepajeplcmaaGreatDoor
open Go.RowKit

/-- A builder stays where only new blocks come in. -/
theorem bldN_grow {B b : Nat} {bs : List Value} {w w' : World} (h : Lib.IsBuilder 90 5 B b bs w) (hb : Below w.heap.size w w') : Lib.IsBuilder 90 5 B b bs w' := by
  have key : ∀ p, Lib.BuilderAt 90 5 B b p bs w → Lib.BuilderAt 90 5 B b p bs w' := by
    intro p h
    have hlt := h.lt
    obtain ⟨hB, v, hbk, hown, hne⟩ := h
    exact ⟨hB, v, (hb.block b hlt).trans hbk, owns_keep hown (fun g hg => hb.block g (hown.lt g hg).2), hne⟩
  rcases h with h | h
  · exact .inl (key _ h)
  · exact .inr (key _ h)
theorem bytesN_append (a : List UInt8) (s : ByteArray) : Lib.byteCells a ++ Lib.strCells s = Lib.byteCells (a ++ bl s) := by
  simp [Lib.byteCells, Lib.strCells, bl]
/-- The text of the first k clauses. -/
def cnfK (vars : Int) (xss : List (List Int)) (k : Nat) : List UInt8 := Lib.join (Lib.itoa vars :: (xss.take k).map txtC) sep2
theorem cnfK_zero (vars : Int) (xss : List (List Int)) : cnfK vars xss 0 = Lib.itoa vars := Lib.join_one _ _
theorem cnfK_succ {vars : Int} {xss : List (List Int)} {k : Nat} (hk : k < xss.length) : cnfK vars xss (k + 1) = cnfK vars xss k ++ ([59, 32] ++ txtC xss[k]) := by
  unfold cnfK
  rw [List.take_succ_eq_append_getElem hk, List.map_append, ← List.cons_append]
  rw [show ([xss[k]].map txtC) = [txtC xss[k]] from rfl, join_snoc (by simp), List.append_assoc]
  rfl
theorem cnfK_all (vars : Int) (xss : List (List Int)) : cnfK vars xss xss.length = cnfT vars xss := by unfold cnfK cnfT; rw [List.take_length]
/-- Clauses that are short and small. -/
def MildC (xss : List (List Int)) : Prop := ∀ c ∈ xss, Within 1000000 c ∧ c.length ≤ 13
theorem txt_len13 {c : List Int} (h : Within 1000000 c ∧ c.length ≤ 13) : (txtC c).length ≤ 200 := by
  by_cases h0 : c = []
  · rw [h0]; decide
  · rw [txtC_ne h0]
    have := join_short h0 (fun x hx => h.1 x hx)
    omega
theorem cnfK_len {vars : Int} {xss : List (List Int)} (hv : -1000000 ≤ vars ∧ vars ≤ 1000000) (hc : MildC xss) : ∀ k, k ≤ xss.length → (cnfK vars xss k).length ≤ 14 + 202 * k
  | 0, _ => by rw [cnfK_zero]; exact itoa_short hv.1 hv.2
  | k + 1, hk => by
    have ih := cnfK_len hv hc k (by omega)
    have := txt_len13 (hc _ (List.getElem_mem (show k < xss.length by omega)))
    rw [cnfK_succ (by omega), List.length_append, List.length_append]
    simp only [List.length_cons, List.length_nil]
    omega
theorem good_mildC {vars : Int} {xss : List (List Int)} (h : goodB vars xss = true) : MildC xss := fun c hc => by
  have h3 := (goodN_parts h).2.2 c hc
  exact ⟨fun x hx => by have := clause_small h3 x hx; omega, by have := clause_len h3; omega⟩

set_option maxRecDepth 100000 in
set_option maxHeartbeats 8000000 in
theorem cnfText_any (vars : Int) (hv : -1000000 ≤ vars ∧ vars ≤ 1000000) (xss : List (List Int)) (hc : MildC xss) (hl : xss.length ≤ 1000) (A : Option Addr) (cap : Nat) (w : World) (hE : Env w) (hx : ClsAt w A xss) :
    Calls Tryz.prog 100 #[.agg #[.int .i64 vars, .slice A xss.length cap]] w fun e w' => e = .returned (.string (ms (cnfT vars xss))) ∧ Below w.heap.size w w' := by
  have hlen := Lib.hid (fun k h => cnfK_len hv hc k h)
  have hsc := Lib.hid (fun k (h : k < xss.length) => cnfK_succ (vars := vars) h)
  have hal := Lib.hid (cnfK_all vars xss)
  have hc0 := Lib.hid (cnfK_zero vars xss)
  have hmc := Lib.hid hc
  have S0 := (Sp.start w).alloc_box #[.int .i64 vars, .slice A xss.length cap] 61
  have SB := S0.alloc (.cells #[.pointer none, .slice none 0 0] 90)
  have d0 := SB.cell (i := 0) rfl (o := 0) rfl
  have hEa := hE.grow S0.below
  have hXa := Lib.hid (hx.grow S0.below)
  have hEb := Lib.hid (hE.grow SB.below)
  have hb1 := S0.below
  obtain ⟨w1, hw1⟩ : ∃ w1, w.alloc (.cells #[.int .i64 vars, .slice A xss.length cap] 61) = w1 := ⟨_, rfl⟩
  have c1 := S0.cell (i := 0) rfl (o := 1) rfl
  have hs1 : Hid (w1.heap.size = w.heap.size + 1) := by unfold Hid; rw [← hw1, World.size_alloc]
  have hst : Hid (Lib.IsBuilder 90 5 (w.heap.size + 1) (w.heap.size + 1) (Lib.byteCells []) (w1.alloc (.cells #[.pointer none, .slice none 0 0] 90))) := by
    have h := Lib.fresh_isBuilder 90 5 w1
    rw [hs1.out] at h
    exact h
  have hB1 : Hid (Below (w.heap.size + 1) w1 (w1.alloc (.cells #[.pointer none, .slice none 0 0] 90))) := by
    have h : Below w1.heap.size w1 (w1.alloc (.cells #[.pointer none, .slice none 0 0] 90)) := bal (bb _) _
    rw [hs1.out] at h
    exact h
  replace hEa := Lib.hid hEa
  replace hb1 := Lib.hid hb1
  replace c1 := Lib.hid c1
  replace hw1 := Lib.hid hw1
  clear hE hx S0 SB hc
  go_enter Tryz.func100, Tryz.ntmps100
  go_wp2_with fail
  refine (itoa_env vars (by omega) (by omega) _ hEb.out).mono ?_
  rintro e w2 ⟨rfl, hb2⟩
  rw [hw1.out] at hXa hEa hb1 c1 hb2 hEb d0
  have hI2 := bldN_grow hst.out hb2
  have hB2 : Below (w.heap.size + 1) w1 w2 := hB1.out.trans (hb2.mono (by have := hB1.out.size; have := hs1.out; omega))
  have hsz : (Lib.byteCells []).length + (ms (Lib.itoa vars)).size ≤ 140737488355328 := by
    rw [ms_size]
    have := itoa_short hv.1 hv.2
    have h0 : (Lib.byteCells []).length = 0 := rfl
    omega
  clear d0
  go_wp2_with fail
  refine (writeString_any (w.heap.size + 1) (w.heap.size + 1) (Lib.byteCells []) (ms (Lib.itoa vars)) w2 hI2 hsz (by have := hB2.size; have := hs1.out; omega)).mono ?_
  rintro e w3 ⟨rfl, hI3, hb3⟩
  rw [bytesN_append, bl_ms, List.nil_append, ← hc0.out] at hI3
  have hB3 : Hid (Below (w.heap.size + 1) w1 w3) := hB2.trans hb3
  have hI4 : Hid (Lib.IsBuilder 90 5 (w.heap.size + 1) (w.heap.size + 1) (Lib.byteCells (cnfK vars xss 0)) w3) := .inr hI3
  have l1 := (hB3.out.cell (p := ⟨w.heap.size, 1, none⟩) (by show w.heap.size < w.heap.size + 1; omega)).trans c1.out
  clear hB2 hb2 hb3 hI2 hI3 hst hB1 hEb c1 hc0
  go_wp2_with fail
  go_loopw [5, 13] (fun _ i wr => ∃ k : Nat, k ≤ xss.length ∧ i = .int .i64 k ∧ Hid (Below (w.heap.size + 1) w1 wr) ∧ Hid (Lib.IsBuilder 90 5 (w.heap.size + 1) (w.heap.size + 1) (Lib.byteCells (cnfK vars xss k)) wr)) (fun _ i _ => xss.length - (intOf i).toNat)
  case atStart => exact ⟨0, Nat.zero_le _, rfl, hB3, hI4⟩
  case round =>
    obtain ⟨k, hk, rfl, HB, HI⟩ := hrel
    clear hB3 hI4 l1
    by_cases hlt : k < xss.length
    · obtain ⟨b, off, Bc, cc, rfl, m0, hI⟩ := hXa.out.at_ k hlt
      have n0 := (HB.out.cell (by have := World.block_lt_of_cell? _ _ m0; have := hs1.out; omega)).trans m0
      have hcm := hmc.out _ (List.getElem_mem hlt)
      have htx := Lib.hid (clauseText_any xss[k] Bc cc wr (hEa.out.below HB.out (by have := hs1.out; omega)) (hI.grow (HB.out.mono (by have := hs1.out; omega))) hcm.1 (by have := hcm.2; omega))
      have hln := hlen.out k hk
      have hst := hsc.out k hlt
      have htl := txt_len13 hcm
      obtain ⟨t, ht⟩ : ∃ t, txtC xss[k] = t := ⟨_, rfl⟩
      rw [ht] at htx hst htl
      obtain ⟨T, hT⟩ : ∃ T, cnfK vars xss k = T := ⟨_, rfl⟩
      rw [hT] at hst hln HI
      obtain ⟨u, hu⟩ : ∃ u, ms (bl ⟨#[59, 32]⟩ ++ bl (ms t)) = u := ⟨_, rfl⟩
      have a1 := fun w' => run_add (P := Tryz.prog) w' ⟨#[59, 32]⟩ (ms t) (by rw [ms_size]; have : (⟨#[59, 32]⟩ : ByteArray).size = 2 := rfl; omega)
      rw [hu] at a1
      have hus : u.size ≤ 202 := by
        rw [← hu, ms_size, bl_ms, List.length_append]
        have : (bl (⟨#[59, 32]⟩ : ByteArray)).length = 2 := rfl
        omega
      have hub : [59, 32] ++ t = bl u := by rw [← hu, bl_ms, bl_ms]; rfl
      rw [hub] at hst
      replace hst := Lib.hid hst
      clear hu hub hT ht hI m0
      generalize xss[k] = c at *
      go_wp2_with fail
      refine htx.out.mono ?_
      rintro e w4 ⟨rfl, hb4⟩
      have hI5 := bldN_grow HI.out hb4
      have hB5 : Below (w.heap.size + 1) w1 w4 := HB.out.trans (hb4.mono (by have := HB.out.size; have := hs1.out; omega))
      clear n0 htx
      go_wp2_with fail
      refine (writeString_any (w.heap.size + 1) (w.heap.size + 1) _ u w4 hI5 (by rw [Lib.byteCells_length]; omega) (by have := hB5.size; have := hs1.out; omega)).mono ?_
      rintro e w5 ⟨rfl, hI6, hb6⟩
      rw [bytesN_append, ← hst.out] at hI6
      have hB6 : Hid (Below (w.heap.size + 1) w1 w5) := hB5.trans hb6
      have hI7 : Hid (Lib.IsBuilder 90 5 (w.heap.size + 1) (w.heap.size + 1) (Lib.byteCells (cnfK vars xss (k + 1))) w5) := .inr hI6
      clear hI5 hB5 hI6 hb4 hb6 HB HI hst a1
      go_wp2_with fail
      go_roundw
      case rel => exact ⟨k + 1, by omega, by go_num, hB6, hI7⟩
      case measure => simp [intOf]; omega
    · obtain rfl : k = xss.length := by omega
      rw [hal.out] at HI
      go_wp2_with fail
      refine (Tryz.Builder_String_any (w.heap.size + 1) (w.heap.size + 1) _ wr HI.out (by have := HB.out.size; have := hs1.out; omega)).mono ?_
      rintro e w6 ⟨rfl, hb6⟩
      have hB := Lib.hid (hb1.out.trans ((HB.out.trans hb6).mono (by have := hs1.out; omega)))
      clear HB HI hb6
      go_wp2_with fail
      go_ret
      exact ⟨rfl, hB.out⟩

/-- The text of a Cnf and whether it is one. -/
def cnfA (vars : Int) (xss : List (List Int)) : List UInt8 := if goodB vars xss then cnfT vars xss else []
set_option maxRecDepth 100000 in
set_option maxHeartbeats 4000000 in
theorem implCnfText_any (vars : Int) (v : Value) (xss : List (List Int)) (F : List Nat) (w : World) (hE : Env w) (hx : (Ty.slice Ty.int).row false w v xss F) :
    Calls Tryz.prog 37 #[.agg #[.int .i64 vars, v]] w fun e w' => e = .returned (.tuple #[.string (ms (cnfA vars xss)), .bool (goodB vars xss)]) ∧ Below w.heap.size w w' := by
  obtain ⟨A, cap, rfl, hI⟩ := cls_row hx
  have S0 := (Sp.start w).alloc_box #[.int .i64 vars, .slice A xss.length cap] 61
  have hgood := Lib.hid (implIsCnf_any vars _ xss F _ (Ty.row_below hx S0.below (Ty.row_lt hx)))
  have hE0 := Lib.hid (hE.grow S0.below)
  have hI0 := Lib.hid (hI.grow S0.below)
  have c0 := S0.cell (i := 0) rfl (o := 0) rfl
  have c1 := S0.cell (i := 0) rfl (o := 1) rfl
  replace S0 := Lib.hid S0
  clear hx hI hE
  unfold cnfA
  cases h1 : goodB vars xss
  · rw [h1] at hgood
    simp only [Bool.false_eq_true, if_false]
    go_enter Tryz.func37, Tryz.ntmps37
    go_wp2_with fail
    refine hgood.out.mono ?_
    rintro e w1 ⟨rfl, hb1⟩
    have hB := Lib.hid (S0.out.grow hb1).below
    clear S0 hgood hb1 c0 c1
    go_wp2_with fail
    go_ret2
    exact ⟨rfl, hB.out⟩
  · rw [h1] at hgood
    simp only [if_true]
    have hm := Lib.hid (good_mildC h1)
    obtain ⟨g1, g2, -⟩ := goodN_parts h1
    have hv := inB_true.1 g1
    have htx := Lib.hid (fun W hE hI => cnfText_any vars (by omega) xss hm.out (by omega) A cap W hE hI)
    generalize cnfT vars xss = t at *
    go_enter Tryz.func37, Tryz.ntmps37
    go_wp2_with fail
    refine hgood.out.mono ?_
    rintro e w1 ⟨rfl, hb1⟩
    have S1 := Lib.hid (S0.out.grow hb1)
    have hty := Lib.hid (htx.out w1 (hE0.out.grow hb1) (hI0.out.grow hb1))
    clear S0 hgood hb1 hE0 hI0 c0 c1
    have d0 := S1.out.cell (i := 0) rfl (o := 0) rfl
    have d1 := S1.out.cell (i := 0) rfl (o := 1) rfl
    go_wp2_with fail
    refine hty.out.mono ?_
    rintro e w2 ⟨rfl, hb2⟩
    have hB := Lib.hid (S1.out.grow hb2).below
    clear S1 hty htx hb2 d0 d1
    go_wp2_with fail
    go_ret2
    exact ⟨rfl, hB.out⟩
end Go.Proofs.YtahbepajeplcmaaGreatDoor

/- Contracts: the text of a Cnf, in the reference. -/
namespace Go.Proofs.YtahbepajeplcmaaGreatDoor
open Go.RowKit

set_option maxRecDepth 100000 in
set_option maxHeartbeats 4000000 in
theorem l2TextOfN_any (vars : Int) (hv : -1000000 ≤ vars ∧ vars ≤ 1000000) (xss : List (List Int)) (hc : MildC xss) (hl : xss.length ≤ 1000) (A : Option Addr) (cap : Nat) (w : World) (hx : ClsAt w A xss) :
    Calls Tryz.prog 102 #[.agg #[.int .i64 vars, .slice A xss.length cap]] w fun e w' => e = .returned (.string (ms (cnfT vars xss))) ∧ Below w.heap.size w w' := by
  have hN := Lib.hid hx
  have hcc := Lib.hid hc
  have hlen := Lib.hid (fun k h => cnfK_len hv hc k h)
  have hsc := Lib.hid (fun k (h : k < xss.length) => cnfK_succ (vars := vars) h)
  have hal := Lib.hid (cnfK_all vars xss)
  have hc0 := Lib.hid (cnfK_zero vars xss)
  have S0 := (Sp.start w).alloc_box #[.int .i64 vars, .slice A xss.length cap] 61
  have c0 := S0.cell (i := 0) rfl (o := 0) rfl
  replace S0 := Lib.hid S0
  clear hx hc
  go_enter Tryz.func102, Tryz.ntmps102
  go_wp2_with fail
  refine (l1Num_any vars _ (by omega) (by omega)).mono ?_
  rintro e w1 ⟨rfl, hb1⟩
  rw [← hc0.out]
  have S1 := Lib.hid (S0.out.grow hb1)
  clear S0 hb1 c0 hc0
  go_wp2_with fail
  go_loopw [3, 4] (fun vs vi wr => ∃ (k : Nat), k ≤ xss.length ∧ vi = .int .i64 k ∧ vs = .string (ms (cnfK vars xss k)) ∧ Hid (Sp w wr [Box w.heap.size 61 #[.int .i64 vars, .slice A xss.length cap]])) (fun _ vi _ => xss.length - (intOf vi).toNat)
  case atStart => exact ⟨0, Nat.zero_le _, rfl, rfl, S1⟩
  case round =>
    obtain ⟨k, hk, rfl, rfl, HS⟩ := hrel
    clear S1
    have c1 := HS.out.cell (i := 0) rfl (o := 1) rfl
    by_cases hlt : k < xss.length
    · obtain ⟨b, off, Bc, cc, rfl, m0, hI⟩ := (hN.out.grow HS.out.below).at_ k hlt
      have hcl := hcc.out _ (List.getElem_mem hlt)
      have htx := Lib.hid (l2Text_any xss[k] hcl.1 (by have := hcl.2; omega) Bc cc wr hI)
      have htl := txt_len13 hcl
      have hln := hlen.out k hk
      have hst := hsc.out k hlt
      obtain ⟨u, hu⟩ : ∃ u, txtC xss[k] = u := ⟨_, rfl⟩
      rw [hu] at htx hst htl
      obtain ⟨T, hT⟩ : ∃ T, cnfK vars xss k = T := ⟨_, rfl⟩
      rw [hT] at hst hln ⊢
      obtain ⟨T2, hT2⟩ : ∃ T, cnfK vars xss (k + 1) = T := ⟨_, rfl⟩
      rw [hT2] at hst
      generalize xss[k] = c at *
      obtain ⟨t1, ht1⟩ : ∃ t1, ms (bl (ms T) ++ bl ⟨#[59, 32]⟩) = t1 := ⟨_, rfl⟩
      have a1 := fun w' => run_add (P := Tryz.prog) w' (ms T) ⟨#[59, 32]⟩ (by have : (⟨#[59, 32]⟩ : ByteArray).size = 2 := rfl; rw [ms_size]; omega)
      rw [ht1] at a1
      have hb1 : bl t1 = T ++ [59, 32] := by rw [← ht1, bl_ms, bl_ms]; rfl
      have hs1 : t1.size = T.length + 2 := by rw [← bl_length, hb1, List.length_append]; rfl
      have a2 := fun w' => run_add (P := Tryz.prog) w' t1 (ms u) (by rw [ms_size]; omega)
      have hb2 : ms (bl t1 ++ bl (ms u)) = ms T2 := by rw [hb1, bl_ms, hst, List.append_assoc]
      rw [hb2] at a2
      replace hT2 := Lib.hid hT2
      replace hT := Lib.hid hT
      clear ht1 hI hb1 hb2 hst hu
      go_wp2_with fail
      refine htx.out.mono ?_
      rintro e w2 ⟨rfl, hb2⟩
      have S2 := Lib.hid (HS.out.grow hb2)
      clear HS hb2 m0 a1 c1 htx
      go_wp2_with fail
      go_roundw
      case rel => exact ⟨k + 1, by omega, by go_num, by rw [hT2.out], S2⟩
      case measure => simp [intOf]; omega
    · obtain rfl : k = xss.length := by omega
      have hB := HS.out.below
      rw [hal.out]
      go_wp2_with fail
      go_ret
      exact ⟨rfl, hB⟩

set_option maxRecDepth 100000 in
set_option maxHeartbeats 4000000 in
theorem specCnfText_any (vars : Int) (v : Value) (xss : List (List Int)) (F : List Nat) (w : World) (hx : (Ty.slice Ty.int).row false w v xss F) :
    Calls Tryz.prog 38 #[.agg #[.int .i64 vars, v]] w fun e w' => e = .returned (.tuple #[.string (ms (cnfA vars xss)), .bool (goodB vars xss)]) ∧ Below w.heap.size w w' := by
  obtain ⟨A, cap, rfl, hI⟩ := cls_row hx
  have S0 := (Sp.start w).alloc_box #[.int .i64 vars, .slice A xss.length cap] 61
  have hgood := Lib.hid (l2Good_any vars _ xss F _ (Ty.row_below hx S0.below (Ty.row_lt hx)))
  have hI0 := Lib.hid (hI.grow S0.below)
  have c0 := S0.cell (i := 0) rfl (o := 0) rfl
  have c1 := S0.cell (i := 0) rfl (o := 1) rfl
  replace S0 := Lib.hid S0
  clear hx hI
  unfold cnfA
  cases h1 : goodB vars xss
  · rw [h1] at hgood
    simp only [Bool.false_eq_true, if_false]
    go_enter Tryz.func38, Tryz.ntmps38
    go_wp2_with fail
    refine hgood.out.mono ?_
    rintro e w1 ⟨rfl, hb1⟩
    have hB := Lib.hid (S0.out.grow hb1).below
    clear S0 hgood hb1 c0 c1
    go_wp2_with fail
    go_ret2
    exact ⟨rfl, hB.out⟩
  · rw [h1] at hgood
    simp only [if_true]
    have hm := Lib.hid (good_mildC h1)
    obtain ⟨g1, g2, -⟩ := goodN_parts h1
    have hv := inB_true.1 g1
    have htx := Lib.hid (fun W hI => l2TextOfN_any vars (by omega) xss hm.out (by omega) A cap W hI)
    generalize cnfT vars xss = t at *
    go_enter Tryz.func38, Tryz.ntmps38
    go_wp2_with fail
    refine hgood.out.mono ?_
    rintro e w1 ⟨rfl, hb1⟩
    have S1 := Lib.hid (S0.out.grow hb1)
    have hty := Lib.hid (htx.out w1 (hI0.out.grow hb1))
    clear S0 hgood hb1 hI0 c0 c1
    have d0 := S1.out.cell (i := 0) rfl (o := 0) rfl
    have d1 := S1.out.cell (i := 0) rfl (o := 1) rfl
    go_wp2_with fail
    refine hty.out.mono ?_
    rintro e w2 ⟨rfl, hb2⟩
    have hB := Lib.hid (S1.out.grow hb2).below
    clear S1 hty htx hb2 d0 d1
    go_wp2_with fail
    go_ret2
    exact ⟨rfl, hB.out⟩
end Go.Proofs.YtahbepajeplcmaaGreatDoor
