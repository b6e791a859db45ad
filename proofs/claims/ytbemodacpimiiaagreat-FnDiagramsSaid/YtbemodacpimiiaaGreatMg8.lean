/- Lemmas and contracts for a law, put together out of several texts: PlB NumT TxA TxB TxC TxD CurR TxE DtE DtF DtG. -/
import Derived.Test.YtbemodacpimiiaaGreatMg1
import Derived.Lib.QuietBelow
import Derived.BigQuiet
import Derived.Test.YtbemodacpimiiaaGreatMg6
import Derived.Test.YtbemodacpimiiaaGreatMg5
import Derived.Test.YtbemodacpimiiaaGreatMg7
/- Plain facts: decimals, checksums, sealed strings, splitting. No program in sight. -/
namespace Go.Proofs.YtbemodacpimiiaaGreat

theorem decDigits_big {u : Nat} (h : ¬ u < 10) : Lib.decDigits u = Lib.decDigits (u / 10) ++ [UInt8.ofNat (48 + u % 10)] := by rw [Lib.decDigits, dif_neg h]
theorem itoa_nat (u : Nat) : Lib.itoa u = Lib.decDigits u := by simp [Lib.itoa, Int.not_lt.2 (Int.natCast_nonneg u)]
theorem itoa_neg (u : Nat) (h : 0 < u) : Lib.itoa (-(u : Int)) = 45 :: Lib.decDigits u := by
  rw [Lib.itoa, if_pos (by omega)]; congr 2; omega
theorem digit_at : ∀ k : Nat, k < 10 → (ByteArray.mk #[48, 49, 50, 51, 52, 53, 54, 55, 56, 57]).extract k (k + 1) = ms [UInt8.ofNat (48 + k)] := by
  intro k hk
  apply bl_inj
  rw [bl_extract, bl_ms]
  match k, hk with
  | 0, _ => rfl
  | 1, _ => rfl
  | 2, _ => rfl
  | 3, _ => rfl
  | 4, _ => rfl
  | 5, _ => rfl
  | 6, _ => rfl
  | 7, _ => rfl
  | 8, _ => rfl
  | 9, _ => rfl
theorem decDigits_ne (u : Nat) : Lib.decDigits u ≠ [] := by
  by_cases h : u < 10
  · rw [Lib.decDigits, dif_pos h]; simp
  · rw [decDigits_big h]; simp
theorem decDigits_len : ∀ (k u : Nat), u < 10 ^ (k + 1) → (Lib.decDigits u).length ≤ k + 1
  | 0, u, h => by rw [Lib.decDigits, dif_pos (by simpa using h)]; simp
  | k + 1, u, h => by
    by_cases h1 : u < 10
    · rw [Lib.decDigits, dif_pos h1]; simp
    · rw [decDigits_big h1, List.length_append]
      have := decDigits_len k (u / 10) (by rw [Nat.pow_succ] at h; omega)
      simp; omega
theorem decDigits_digit : ∀ (n u : Nat), u ≤ n → ∀ c ∈ Lib.decDigits u, 48 ≤ c.toNat ∧ c.toNat ≤ 57
  | n, u, hn => by
    intro c hc
    by_cases h1 : u < 10
    · rw [Lib.decDigits, dif_pos h1] at hc
      simp at hc; subst hc
      simp; omega
    · rw [decDigits_big h1] at hc
      rcases List.mem_append.1 hc with hc | hc
      · cases n with
        | zero => omega
        | succ n => exact decDigits_digit n (u / 10) (by omega) c hc
      · simp at hc; subst hc
        simp; omega
termination_by n => n

/-- The checksum. -/
def sumB (l : List UInt8) : Int := l.foldl (fun h c => (41 * h + c.toNat + 1) % 999979) 7
theorem sumB_snoc (l : List UInt8) (c : UInt8) : sumB (l ++ [c]) = (41 * sumB l + c.toNat + 1) % 999979 := by simp [sumB]
theorem sumB_nil : sumB [] = 7 := rfl
theorem sumB_range (l : List UInt8) : 0 ≤ sumB l ∧ sumB l < 999979 := by
  rcases List.eq_nil_or_concat l with rfl | ⟨l', c, rfl⟩
  · exact ⟨by decide, by decide⟩
  · rw [List.concat_eq_append, sumB_snoc]; omega
/-- The sealed string. -/
def sealB (l : List UInt8) : List UInt8 := l ++ 35 :: Lib.itoa (sumB l)
theorem itoa_len {n : Int} (h0 : 0 ≤ n) (h : n < 1000000) : (Lib.itoa n).length ≤ 6 := by
  obtain ⟨u, rfl⟩ := Int.eq_ofNat_of_zero_le h0
  rw [itoa_nat]
  exact decDigits_len 5 u (by omega)
theorem sealB_length (l : List UInt8) : (sealB l).length ≤ l.length + 7 := by
  have := sumB_range l
  have := itoa_len this.1 (by omega)
  simp [sealB]; omega
end Go.Proofs.YtbemodacpimiiaaGreat

/- Contract: the decimal of a number, in the reference. -/
namespace Go.Proofs.YtbemodacpimiiaaGreat
open Go.RowKit

theorem ret_str {s t : ByteArray} (h : s = t) : Ending.returned (.string s) = .returned (.string t) := by rw [h]

/-- One decimal digit. -/
def dgB (n : Int) : List UInt8 := [UInt8.ofNat (48 + n.toNat)]
theorem dgB_length (n : Int) : (dgB n).length = 1 := rfl

theorem digit_int (n : Int) (h0 : 0 ≤ n) (h : n < 10) : (ByteArray.mk #[48, 49, 50, 51, 52, 53, 54, 55, 56, 57]).extract n.toNat (n + 1).toNat = ms (dgB n) := by
  unfold dgB
  rw [show (n + 1).toNat = n.toNat + 1 by omega]
  exact digit_at _ (by omega)

set_option maxHeartbeats 400000 in
theorem l1Num_nat (k : Nat) : ∀ (n : Int) (w : World), 0 ≤ n → n ≤ 1000000000000 → n.toNat ≤ k →
    Calls Tryz.prog 153 #[.int .i64 n] w fun e w' => e = .returned (.string (ms (Lib.decDigits n.toNat))) ∧ Below w.heap.size w w' := by
  induction k with
  | zero =>
    intro n w h0 hb hk
    have h : n < 10 := by omega
    go_enter Tryz.func153, Tryz.ntmps153
    go_wp2_with fail
    go_ret
    exact ⟨ret_str (by rw [Lib.decDigits, dif_pos (by omega)]; exact digit_int n h0 h), bb _⟩
  | succ k ih =>
    intro n w h0 hb hk
    by_cases h : n < 10
    · go_enter Tryz.func153, Tryz.ntmps153
      go_wp2_with fail
      go_ret
      exact ⟨ret_str (by rw [Lib.decDigits, dif_pos (by omega)]; exact digit_int n h0 h), bb _⟩
    · have hl : (Lib.decDigits (n / 10).toNat).length ≤ 13 := decDigits_len 12 _ (by omega)
      have hm1 : 0 ≤ n % 10 := by omega
      have hm2 : n % 10 < 10 := by omega
      have e4 := digit_int (n % 10) hm1 hm2
      have e5 := fun w => run_add (P := Tryz.prog) w (ms (Lib.decDigits (n / 10).toNat)) (ms (dgB (n % 10))) (by rw [ms_size, ms_size, dgB_length]; omega)
      have e6 : Hid (bl (ms (Lib.decDigits (n / 10).toNat)) ++ bl (ms (dgB (n % 10))) = Lib.decDigits n.toNat) := by
        rw [bl_ms, bl_ms, decDigits_big (u := n.toNat) (by omega)]
        unfold Hid dgB
        rw [show n.toNat / 10 = (n / 10).toNat by omega, show n.toNat % 10 = (n % 10).toNat by omega]
      have q1 : 0 ≤ n / 10 := by omega
      have q2 : n / 10 ≤ 1000000000000 := by omega
      have q3 : (n / 10).toNat ≤ k := by omega
      have e1 : IntKind.i64.wrap (n.tdiv 10) = n / 10 := by rw [Int.tdiv_eq_ediv_of_nonneg h0]; exact IntWalk.i64_in _ (by omega)
      have e2 : IntKind.i64.wrap (n.tmod 10) = n % 10 := by rw [Int.tmod_eq_emod_of_nonneg h0]; exact IntWalk.i64_in _ (by clear e1; omega)
      have e3 : IntKind.i64.wrap (n % 10 + 1) = n % 10 + 1 := IntWalk.i64_in _ (by clear e1 e2; omega)
      go_enter Tryz.func153, Tryz.ntmps153
      go_wp2_with fail
      refine wp_region_quiet_below (by kernel_rfl) (by kernel_rfl) ?_
      repeat (any_goals (first | go_big_quiet_step ((go_at_call 153; exact Calls.regrown_of (ih (n / 10) _ q1 q2 q3))) | quiet_step ((go_at_call 153; exact Calls.regrown_of (ih (n / 10) _ q1 q2 q3)))))
      refine wpQuiet_nil ?_
      rintro w1 ⟨p, rfl⟩
      go_wp2_with fail
      go_ret
      exact ⟨ret_str (congrArg ms e6.out), below_regrown _ _ _⟩

theorem l1Num_pos (n : Int) (w : World) (h0 : 0 ≤ n) (h1 : n ≤ 1000000000000) :
    Calls Tryz.prog 153 #[.int .i64 n] w fun e w' => e = .returned (.string (ms (Lib.itoa n))) ∧ Below w.heap.size w w' := by
  have e : Lib.itoa n = Lib.decDigits n.toNat := by rw [Lib.itoa, if_neg (by omega)]
  rw [e]
  exact l1Num_nat n.toNat n w h0 h1 (Nat.le_refl _)

set_option maxHeartbeats 400000 in
theorem l1Num_any (n : Int) (w : World) (h0 : -1000000000000 ≤ n) (h1 : n ≤ 1000000000000) :
    Calls Tryz.prog 153 #[.int .i64 n] w fun e w' => e = .returned (.string (ms (Lib.itoa n))) ∧ Below w.heap.size w w' := by
  by_cases hn : n < 0
  · have hl : (Lib.itoa (-n)).length ≤ 13 := by
      rw [Lib.itoa, if_neg (by omega)]; exact decDigits_len 12 _ (by omega)
    have e6 : Hid (45 :: Lib.itoa (-n) = Lib.itoa n) := by
      unfold Hid
      rw [Lib.itoa, if_neg (by omega), Lib.itoa, if_pos hn, show n.natAbs = (-n).toNat by omega]
    go_enter Tryz.func153, Tryz.ntmps153
    go_wp2_with (go_at_call 153; refine (l1Num_pos (-n) _ (by omega) (by omega)).mono ?_; rintro e w1 ⟨rfl, hb1⟩)
    go_ret
    exact ⟨ret_str (by apply bl_inj; rw [bl_ms, ← e6.out]; simp [bl_append, bl_ms, bl_lit]), by assumption⟩
  · exact l1Num_pos n w (by omega) h1
end Go.Proofs.YtbemodacpimiiaaGreat

/- Contracts, weak ones: splitting and reading texts in the reference, as the draws need it. -/
namespace Go.Proofs.YtbemodacpimiiaaGreat
open Go.RowKit

theorem infoStrT : (Tryz.prog.info? 9).map (fun i => (i.zero, i.size, i.bytes)) = some (some (.string ByteArray.empty), 1, 16) := by kernel_rfl
theorem ext_le (s : ByteArray) (a b : Nat) : (s.extract a b).size ≤ s.size := by
  rw [← bl_length, bl_extract, List.length_take, List.length_drop, bl_length]; omega
theorem itoa_short {z : Int} (h0 : -1000000 ≤ z) (h1 : z ≤ 1000000) : (Lib.itoa z).length ≤ 14 := by
  rw [Lib.itoa]
  split
  · have := decDigits_len 12 z.natAbs (by omega)
    simp only [List.length_cons]; omega
  · have := decDigits_len 12 z.toNat (by omega)
    omega
/-- Some strings, none longer than a bound. -/
def StrsLe (n : Nat) (ps : List ByteArray) : Prop := ∀ p ∈ ps, p.size ≤ n

set_option maxRecDepth 100000 in
set_option maxHeartbeats 4000000 in
theorem l1SplitW_any (s : ByteArray) (b : Int) (w : World) (hs : s.size ≤ 100000) :
    Calls Tryz.prog 145 #[.string s, .int .u8 b] w fun e w' => ∃ (ps : List ByteArray) (B : Option Addr) (c : Nat), e = .returned (.slice B ps.length c) ∧ 0 < ps.length ∧ ps.length ≤ s.size + 1 ∧ StrsLe s.size ps ∧ Sp w w' [Own 9 1 (.slice B ps.length c) ps.length (ps.map .string)] := by
  obtain ⟨i0, hi, hz0, hz1, hz2⟩ := info_parts infoStrT
  have S0 := Lib.hid ((Sp.start w).own_made 9 1)
  go_enter Tryz.func145, Tryz.ntmps145
  go_wp2_with fail
  go_loopw [5, 6, 7] (fun vo vf vi wr => ∃ (k fr : Nat) (ps : List ByteArray) (B : Option Addr) (c : Nat), k ≤ s.size ∧ fr ≤ k ∧ ps.length ≤ k ∧ vi = .int .i64 k ∧ vf = .int .i64 fr ∧ vo = .slice B ps.length c ∧ Hid (StrsLe s.size ps) ∧ Hid (Sp w wr [Own 9 1 (.slice B ps.length c) ps.length (ps.map .string)])) (fun _ _ vi _ => s.size - (intOf vi).toNat)
  case atStart => exact ⟨0, 0, [], _, _, Nat.zero_le _, Nat.le_refl _, Nat.le_refl _, rfl, rfl, rfl, fun p hp => by simp at hp, S0⟩
  case round =>
    obtain ⟨k, fr, ps, B, c, hk, hfr, hps, rfl, rfl, rfl, HL, HS⟩ := hrel
    clear S0
    by_cases hlt : k < s.size
    · by_cases hb : ((s[k].toNat : Int) == b) = true
      · have hx := ext_le s fr k
        have S2 := HS.out.alloc_box #[.string (s.extract fr k)] 9
        have kB := S2.cell (i := 0) rfl (o := 0) rfl
        replace S2 := Lib.hid S2
        clear HS
        go_wp2_with (at_builtin; refine wpList_append_src rfl _ _ rfl Tryz.underlying129 hi hz0 hz1 hz2 rfl (by decide) _ _ _ rfl (S2.out.own (i := 1) rfl) _ 1 1 [.string (s.extract fr k)] rfl (Src.one kB) (by simp [Value.oneCell']) ?c3 ?c4 ?_)
        case c3 => unfold maxLen; omega
        case c4 => omega
        intro vY wY hownY hgY hatY
        have S4 := (S2.out.own_push (i := 1) rfl (bb _) hownY hgY (by simpa using hatY)).tail
        obtain ⟨aY, cY, rfl⟩ := own_slice hownY
        have hlen : ps.length + 1 = (ps ++ [s.extract fr k]).length := by simp
        have HS3 : Hid (Sp w wY [Own 9 1 (.slice aY (ps ++ [s.extract fr k]).length cY) (ps ++ [s.extract fr k]).length ((ps ++ [s.extract fr k]).map .string)]) := by
          unfold Hid; rw [← hlen, List.map_append]; exact S4
        have HL2 : Hid (StrsLe s.size (ps ++ [s.extract fr k])) := fun p hp => by
          rcases List.mem_append.1 hp with hp | hp
          · exact HL.out p hp
          · obtain rfl : p = s.extract fr k := by simpa using hp
            exact hx
        rw [hlen]
        generalize ps ++ [s.extract fr k] = ps2 at *
        clear S2 S4 kB hownY hgY hatY HL hx
        replace hlen := Lib.hid hlen
        go_wp2_with fail
        go_roundw
        case rel => exact ⟨k + 1, k + 1, ps2, aY, cY, by omega, by omega, by have := hlen.out; omega, by go_num, by go_num, rfl, HL2, HS3⟩
        case measure => simp [intOf]; omega
      · have hb' : ((s[k].toNat : Int) == b) = false := by simpa using hb
        clear hb
        go_wp2_with fail
        go_roundw
        case rel => exact ⟨k + 1, fr, ps, B, c, by omega, by omega, by omega, by go_num, rfl, rfl, HL, HS⟩
        case measure => simp [intOf]; omega
    · obtain rfl : k = s.size := by omega
      have hx := ext_le s fr s.size
      have S2 := HS.out.alloc_box #[.string (s.extract fr s.size)] 9
      have kB := S2.cell (i := 0) rfl (o := 0) rfl
      replace S2 := Lib.hid S2
      clear HS
      go_wp2_with (at_builtin; refine wpList_append_src rfl _ _ rfl Tryz.underlying129 hi hz0 hz1 hz2 rfl (by decide) _ _ _ rfl (S2.out.own (i := 1) rfl) _ 1 1 [.string (s.extract fr s.size)] rfl (Src.one kB) (by simp [Value.oneCell']) ?c3 ?c4 ?_)
      case c3 => unfold maxLen; omega
      case c4 => omega
      intro vY wY hownY hgY hatY
      have S4 := (S2.out.own_push (i := 1) rfl (bb _) hownY hgY (by simpa using hatY)).tail
      obtain ⟨aY, cY, rfl⟩ := own_slice hownY
      have hlen : ps.length + 1 = (ps ++ [s.extract fr s.size]).length := by simp
      have HS3 : Hid (Sp w wY [Own 9 1 (.slice aY (ps ++ [s.extract fr s.size]).length cY) (ps ++ [s.extract fr s.size]).length ((ps ++ [s.extract fr s.size]).map .string)]) := by
        unfold Hid; rw [← hlen, List.map_append]; exact S4
      have HL2 : Hid (StrsLe s.size (ps ++ [s.extract fr s.size])) := fun p hp => by
        rcases List.mem_append.1 hp with hp | hp
        · exact HL.out p hp
        · obtain rfl : p = s.extract fr s.size := by simpa using hp
          exact hx
      rw [hlen]
      generalize ps ++ [s.extract fr s.size] = ps2 at *
      clear S2 S4 kB hownY hgY hatY HL hx
      replace hlen := Lib.hid hlen
      go_wp2_with fail
      go_ret
      exact ⟨ps2, aY, cY, rfl, by have := hlen.out; omega, by have := hlen.out; omega, HL2.out, HS3.out⟩
end Go.Proofs.YtbemodacpimiiaaGreat

/- Contracts, weak ones: the number of a text, the text of a clause, in the reference. -/
namespace Go.Proofs.YtbemodacpimiiaaGreat
open Go.RowKit

/-- A number and whether it was one. -/
def ReadW (e : Ending) : Prop := ∃ (z : Int) (q : Bool), -1000000 ≤ z ∧ z ≤ 1000000 ∧ e = .returned (.tuple #[.int .i64 z, .bool q])
set_option maxRecDepth 100000 in
set_option maxHeartbeats 4000000 in
theorem l1ReadW_any (s : ByteArray) (w : World) (hs : s.size ≤ 100000) :
    Calls Tryz.prog 146 #[.string s] w fun e w' => ReadW e ∧ Below w.heap.size w w' := by
  go_enter Tryz.func146, Tryz.ntmps146
  go_upto_region 2 with fail
  go_cut [15] (fun v wx => ∃ q : Bool, v = .bool q ∧ Hid (q = true → 1 < s.size) ∧ wx = w)
  case first =>
    by_cases h1 : (1 : Int) < (s.size : Int)
    · have d1 : decide ((1 : Int) < (s.size : Int)) = true := decide_eq_true h1
      have h0 : 0 < s.size := by omega
      by_cases h2 : ((s[0].toNat : Int) == 45) = true
      · go_wp2_with fail
        go_meet
        exact ⟨true, rfl, fun _ => by omega, rfl⟩
      · have h2' : ((s[0].toNat : Int) == 45) = false := by simpa using h2
        clear h2
        go_wp2_with fail
        go_meet
        exact ⟨false, rfl, (fun e => by cases e), rfl⟩
    · have d1 : decide ((1 : Int) < (s.size : Int)) = false := decide_eq_false h1
      go_wp2_with fail
      go_meet
      exact ⟨false, rfl, (fun e => by cases e), rfl⟩
  case rest =>
  obtain ⟨q, rfl, hq, hw⟩ := hcut
  subst hw
  go_upto_if 15 with fail
  go_cut [4] (fun v wx => ∃ t : ByteArray, v = .string t ∧ t.size ≤ 100000 ∧ wx = wc)
  case first =>
    cases q
    · go_wp2_with fail
      go_meet
      exact ⟨s, rfl, hs, rfl⟩
    · have hq2 := hq.out rfl
      have h1 : (1 : Int) ≤ (s.size : Int) := by omega
      have hx := ext_le s 1 s.size
      clear hq
      go_wp2_with fail
      go_meet
      exact ⟨s.extract 1 s.size, rfl, by omega, rfl⟩
  case rest =>
  clear hq
  obtain ⟨t, rfl, ht, hw2⟩ := hcut
  subst hw2
  obtain ⟨q6, hq6⟩ : ∃ q, inB (t.size : Int) 1 6 = q := ⟨_, rfl⟩
  go_wp2_with fail
  refine (l1In_any _ _ _ _).mono ?_
  rintro e w1 ⟨rfl, rfl⟩
  rw [hq6]
  cases q6
  · go_wp2_with fail
    go_ret2
    exact ⟨⟨0, false, by decide, by decide, rfl⟩, bb _⟩
  have hT6 : t.size ≤ 6 := by unfold inB at hq6; simp only [Bool.and_eq_true, decide_eq_true_eq] at hq6; omega
  go_wp2_with fail
  go_loop [5, 6] (fun z i => ∃ (k : Nat) (v : Int), k ≤ t.size ∧ i = .int .i64 k ∧ z = .int .i64 v ∧ 0 ≤ v ∧ Hid (v < (10 : Int) ^ k)) (fun _ i => t.size - (intOf i).toNat)
  case atStart => exact ⟨0, 0, Nat.zero_le _, rfl, rfl, Int.le_refl _, by unfold Hid; decide⟩
  case round =>
    obtain ⟨k, v, hk, rfl, rfl, hv0, hv⟩ := hrel
    have hv6 : v < 1000000 := Int.lt_of_lt_of_le hv.out (by
      have h1 : (10 : Int) ^ k = ((10 ^ k : Nat) : Int) := by rw [Int.natCast_pow]; rfl
      have h2 : 10 ^ k ≤ 10 ^ 6 := Nat.pow_le_pow_right (by decide) (by omega)
      omega)
    by_cases hlt : k < t.size
    · have hc256 := t[k].toNat_lt
      by_cases h1 : (t[k].toNat : Int) < 48
      · have d1 : decide ((t[k].toNat : Int) < 48) = true := decide_eq_true h1
        go_wp2_with fail
        go_ret2
        exact ⟨⟨0, false, by decide, by decide, rfl⟩, bb _⟩
      · have d1 : decide ((t[k].toNat : Int) < 48) = false := decide_eq_false h1
        by_cases h2 : (57 : Int) < (t[k].toNat : Int)
        · have d2 : decide ((57 : Int) < (t[k].toNat : Int)) = true := decide_eq_true h2
          go_wp2_with fail
          go_ret2
          exact ⟨⟨0, false, by decide, by decide, rfl⟩, bb _⟩
        · have d2 : decide ((57 : Int) < (t[k].toNat : Int)) = false := decide_eq_false h2
          have hw1 : IntKind.i64.wrap (10 * v) = 10 * v := IntWalk.i64_in _ (by omega)
          have hnx : Hid (10 * v + ((t[k].toNat : Int) - 48) < (10 : Int) ^ (k + 1)) := by
            have h3 := hv.out
            unfold Hid
            rw [Int.pow_succ]
            omega
          have hge : 0 ≤ 10 * v + ((t[k].toNat : Int) - 48) := by omega
          clear hv
          go_wp2_with fail
          go_round
          case rel => exact ⟨k + 1, _, by omega, by go_num, rfl, hge, hnx⟩
          case measure => simp [intOf]; omega
    · obtain rfl : k = t.size := by omega
      clear hv
      have hneg : IntKind.i64.wrap (-v) = -v := IntWalk.i64_in _ (by omega)
      go_upto_if 50 with fail
      go_cut [5] (fun x wx => ∃ z : Int, x = .int .i64 z ∧ -1000000 ≤ z ∧ z ≤ 1000000 ∧ wx = wc)
      case first =>
        by_cases hlt2 : (t.size : Int) < (s.size : Int)
        · have d1 : decide ((t.size : Int) < (s.size : Int)) = true := decide_eq_true hlt2
          go_wp2_with fail
          go_meet
          exact ⟨-v, rfl, by omega, by omega, rfl⟩
        · have d1 : decide ((t.size : Int) < (s.size : Int)) = false := decide_eq_false hlt2
          go_wp2_with fail
          go_meet
          exact ⟨v, rfl, by omega, by omega, rfl⟩
      case rest =>
      obtain ⟨z, rfl, hz0, hz1, hw3⟩ := hcut
      subst hw3
      go_wp2_with fail
      refine (l1Num_any z _ (by omega) (by omega)).mono ?_
      rintro e w2 ⟨rfl, hb2⟩
      generalize ms (Lib.itoa z) = u at *
      obtain ⟨q, hq⟩ : ∃ q, (bl u == bl s) = q := ⟨_, rfl⟩
      cases q
      · go_wp2_with fail
        go_ret2
        exact ⟨⟨0, false, by decide, by decide, rfl⟩, hb2⟩
      · go_wp2_with fail
        go_ret2
        exact ⟨⟨z, true, hz0, hz1, rfl⟩, hb2⟩

set_option maxRecDepth 100000 in
set_option maxHeartbeats 4000000 in
theorem l2TextW_any (c : List Int) (hc : Within 1000000 c) (hl : c.length ≤ 100) (A : Option Addr) (cap : Nat) (w : World) (hx : IntsAt w A c) :
    Calls Tryz.prog 154 #[.slice A c.length cap] w fun e w' => ∃ t : ByteArray, t.size ≤ 20 * c.length + 20 ∧ e = .returned (.string t) ∧ Below w.heap.size w w' := by
  have hN := Lib.hid hx
  clear hx
  by_cases h0 : c.length = 0
  · have h0' : (c.length : Int) = 0 := by omega
    replace h0 := Lib.hid h0
    go_enter Tryz.func154, Tryz.ntmps154
    go_wp2_with fail
    go_ret
    exact ⟨_, by show 4 ≤ _; omega, rfl, bb _⟩
  · have h1 : 0 < c.length := by omega
    have h0' : ((c.length : Int) == 0) = false := by rw [beq_eq_false_iff_ne]; omega
    obtain ⟨b, off, rfl, m0⟩ := hN.out.at_ 0 h1
    have hb0 := hc _ (List.getElem_mem h1)
    rw [Nat.add_zero] at m0
    generalize c[0] = x0 at *
    clear h0
    go_enter Tryz.func154, Tryz.ntmps154
    go_wp2_with fail
    refine (l1Num_any x0 _ (by omega) (by omega)).mono ?_
    rintro e w1 ⟨rfl, hb1⟩
    have hsz : (ms (Lib.itoa x0)).size ≤ 14 := by rw [ms_size]; exact itoa_short hb0.1 hb0.2
    generalize ms (Lib.itoa x0) = t0 at *
    have HB0 := Lib.hid hb1
    clear hb1 m0 hb0
    go_wp2_with fail
    go_loopw [3, 4] (fun vs vi wr => ∃ (k : Nat) (t : ByteArray), k ≤ c.length ∧ 1 ≤ k ∧ vi = .int .i64 k ∧ vs = .string t ∧ t.size ≤ 20 * k ∧ Hid (Below w.heap.size w wr)) (fun _ vi _ => c.length - (intOf vi).toNat)
    case atStart => exact ⟨1, t0, h1, Nat.le_refl _, rfl, rfl, by omega, HB0⟩
    case round =>
      obtain ⟨k, t, hk, hk1, rfl, rfl, hts, HB⟩ := hrel
      clear HB0
      by_cases hlt : k < c.length
      · obtain ⟨b', off', e', m0⟩ := (hN.out.grow HB.out).at_ k hlt
        cases e'
        have hb0 := hc _ (List.getElem_mem hlt)
        generalize c[k] = x at *
        obtain ⟨t1, ht1⟩ : ∃ t1, ms (bl t ++ bl ⟨#[32]⟩) = t1 := ⟨_, rfl⟩
        have hs1 : t1.size ≤ 20 * k + 1 := by
          rw [← ht1, ms_size, List.length_append, bl_length, bl_length]
          have : (⟨#[32]⟩ : ByteArray).size = 1 := rfl
          omega
        have a1 := fun w' => run_add (P := Tryz.prog) w' t ⟨#[32]⟩ (by have : (⟨#[32]⟩ : ByteArray).size = 1 := rfl; omega)
        rw [ht1] at a1
        clear ht1
        go_wp2_with fail
        refine (l1Num_any x _ (by omega) (by omega)).mono ?_
        rintro e w2 ⟨rfl, hb2⟩
        have hsz2 : (ms (Lib.itoa x)).size ≤ 14 := by rw [ms_size]; exact itoa_short hb0.1 hb0.2
        generalize ms (Lib.itoa x) = u at *
        obtain ⟨t2, ht2⟩ : ∃ t2, ms (bl t1 ++ bl u) = t2 := ⟨_, rfl⟩
        have hs2 : t2.size ≤ 20 * (k + 1) := by
          rw [← ht2, ms_size, List.length_append, bl_length, bl_length]
          omega
        have a2 := fun w' => run_add (P := Tryz.prog) w' t1 u (by omega)
        rw [ht2] at a2
        have HB2 := Lib.hid (btr HB.out hb2)
        clear ht2 HB hb2 hb0 m0 a1
        go_wp2_with fail
        go_roundw
        case rel => exact ⟨k + 1, t2, by omega, by omega, by go_num, rfl, hs2, HB2⟩
        case measure => simp [intOf]; omega
      · obtain rfl : k = c.length := by omega
        go_wp2_with fail
        go_ret
        exact ⟨t, by omega, rfl, HB.out⟩
end Go.Proofs.YtbemodacpimiiaaGreat

/- Contract, a weak one: a clause read from a text, in the reference. -/
namespace Go.Proofs.YtbemodacpimiiaaGreat
open Go.RowKit

theorem strs_own {w : World} {B : Nat} {e : TypeId} {A : Option Addr} {c : Nat} {ps : List ByteArray} (h : w.ownsRow B e 1 (.slice A ps.length c) ps.length (ps.map .string)) {j : Nat} (hj : j < ps.length) : ∃ b off, A = some ⟨b, off, none⟩ ∧ w.cell? ⟨b, off + j, none⟩ = some (.string ps[j]) := by
  obtain ⟨g, cap, cur, e1, _, hh, _, _, _, ht⟩ := own_block h (by omega)
  simp only [Value.slice.injEq] at e1
  obtain ⟨rfl, -, rfl⟩ := e1
  refine ⟨g, 0, rfl, ?_⟩
  rw [Nat.mul_one] at ht
  rw [Nat.zero_add, hown_cell hh ht hj]
  simp [hj]
theorem Within.snoc {m : Int} {c : List Int} {x : Int} (h : Within m c) (h0 : -m ≤ x) (h1 : x ≤ m) : Within m (c ++ [x]) := fun y hy => by
  rcases List.mem_append.1 hy with hy | hy
  · exact h y hy
  · obtain rfl : y = x := by simpa using hy
    exact ⟨h0, h1⟩
/-- A clause and whether it is one. -/
def ParseW (vars : Int) (w : World) (e : Ending) (w' : World) : Prop := ∃ (c : List Int) (B : Option Addr) (k : Nat) (q : Bool), e = .returned (.tuple #[.slice B c.length k, .bool q]) ∧ Within 1000000 c ∧ c.length ≤ 13 ∧ (q = true → clauseB vars c = true) ∧ Sp w w' [Own 3 1 (.slice B c.length k) c.length (c.map (.int .i64))]

set_option maxRecDepth 100000 in
set_option maxHeartbeats 8000000 in
theorem l2ParseW_any (vars : Int) (s : ByteArray) (w : World) (hs : s.size ≤ 100000) :
    Calls Tryz.prog 147 #[.int .i64 vars, .string s] w (ParseW vars w) := by
  have S0 := Lib.hid ((Sp.start w).own_made 3 1)
  obtain ⟨i0, hi, hz0, hz1, hz2⟩ := info_parts infoInt
  go_enter Tryz.func147, Tryz.ntmps147
  go_upto_region 2 with fail
  go_cut [13] (fun v wx => ∃ q : Bool, v = .bool q ∧ Hid (Sp w wx [Own 3 1 (.slice (some ⟨w.heap.size, 0, none⟩) 0 0) 0 []]))
  case first =>
    go_wp2_with fail
    go_meet
    exact ⟨_, rfl, S0⟩
  case rest =>
  clear S0
  obtain ⟨q, rfl, S0⟩ := hcut
  cases q
  case true =>
    obtain ⟨q1, hq1⟩ : ∃ q, inB vars 0 12 = q := ⟨_, rfl⟩
    go_wp2_with fail
    refine (l2Vars_any _ _).mono ?_
    rw [hq1]
    rintro e w1 ⟨rfl, rfl⟩
    go_wp2_with fail
    go_ret2
    exact ⟨[], _, _, q1, rfl, fun x hx => by simp at hx, by simp, fun h => by unfold clauseB; rw [hq1, h]; rfl, S0.out⟩
  case false =>
  go_wp2_with fail
  refine (l1SplitW_any s 32 _ hs).mono ?_
  rintro e w1 ⟨ps, PB, pc, rfl, hps0, hps1, HL, T1⟩
  have S1 : Hid (Sp w w1 [Own 9 1 (.slice PB ps.length pc) ps.length (ps.map .string), Own 3 1 (.slice (some ⟨w.heap.size, 0, none⟩) ([] : List Int).length 0) ([] : List Int).length (([] : List Int).map (.int .i64))]) := S0.out.seq T1
  replace HL := Lib.hid HL
  clear S0 T1
  go_wp2_with fail
  go_loopw [6, 8, 9, 10] (fun vo vi _ _ wr => ∃ (c : List Int) (B : Option Addr) (cap : Nat), c.length ≤ ps.length ∧ c.length ≤ 13 ∧ vi = .int .i64 (c.length : Nat) ∧ vo = .slice B c.length cap ∧ Hid (Within 1000000 c) ∧ Hid (Sp w wr [Own 9 1 (.slice PB ps.length pc) ps.length (ps.map .string), Own 3 1 (.slice B c.length cap) c.length (c.map (.int .i64))])) (fun _ vi _ _ _ => ps.length - (intOf vi).toNat)
  case atStart => exact ⟨[], _, _, Nat.zero_le _, by simp, rfl, rfl, fun x hx => by simp at hx, S1⟩
  case round =>
    obtain ⟨c, B, cap, hk, hk13, rfl, rfl, HW, HS⟩ := hrel
    clear S1
    go_upto_region 6 with fail
    go_cut [26] (fun v wx => ∃ q : Bool, v = .bool q ∧ Hid (q = true → c.length < ps.length ∧ c.length ≤ 12) ∧ Hid (Sp w wx [Own 9 1 (.slice PB ps.length pc) ps.length (ps.map .string), Own 3 1 (.slice B c.length cap) c.length (c.map (.int .i64))]))
    case first =>
      have hcond : (c.length < ps.length ∧ c.length ≤ 12) ∨ ¬ c.length < ps.length ∨ (c.length < ps.length ∧ ¬ c.length ≤ 12) := by omega
      rcases hcond with ⟨hm, hn0⟩ | hm | ⟨hm, hn0⟩
      · have d1 : decide ((c.length : Int) < (ps.length : Int)) = true := decide_eq_true (by omega)
        have d2 : decide ((c.length : Int) ≤ 12) = true := decide_eq_true (by omega)
        go_wp2_with fail
        go_meet
        exact ⟨true, rfl, fun _ => ⟨hm, hn0⟩, HS⟩
      · have d1 : decide ((c.length : Int) < (ps.length : Int)) = false := decide_eq_false (by omega)
        go_wp2_with fail
        go_meet
        exact ⟨false, rfl, (fun e => by cases e), HS⟩
      · have d1 : decide ((c.length : Int) < (ps.length : Int)) = true := decide_eq_true (by omega)
        have d2 : decide ((c.length : Int) ≤ 12) = false := decide_eq_false (by omega)
        go_wp2_with fail
        go_meet
        exact ⟨false, rfl, (fun e => by cases e), HS⟩
    case rest =>
    clear HS
    obtain ⟨q, rfl, hq, HS⟩ := hcut
    cases q
    case true =>
      obtain ⟨hm, hn0⟩ := hq.out rfl
      clear hq
      obtain ⟨b, off, rfl, m0⟩ := strs_own (HS.out.own (i := 0) rfl) hm
      have hsz := HL.out _ (List.getElem_mem hm)
      have hrd := Lib.hid (fun W => l1ReadW_any ps[c.length] W (by omega))
      generalize ps[c.length] = p at *
      go_wp2_with fail
      refine (hrd.out _).mono ?_
      rintro e w2 ⟨⟨z, q, hzl, hzu, rfl⟩, hb2⟩
      have S2 := Lib.hid (HS.out.grow hb2)
      clear HS hrd hb2 m0 hsz
      cases q
      · have S3 := Lib.hid (S2.out.own_made 3 1)
        clear S2
        go_wp2_with fail
        go_ret2
        exact ⟨[], _, _, false, rfl, fun x hx => by simp at hx, by simp, (fun e => by cases e), S3.out.swap.tail.swap.tail⟩
      · have S3 := S2.out.alloc_box #[.int .i64 z] 3
        have kB := S3.cell (i := 0) rfl (o := 0) rfl
        replace S3 := Lib.hid S3
        clear S2
        go_wp2_with (at_builtin; refine wpList_append_src rfl _ _ rfl Tryz.underlying37 hi hz0 hz1 hz2 rfl (by decide) _ _ _ rfl (S3.out.own (i := 2) rfl) _ 1 1 [.int .i64 z] rfl (Src.one kB) (by simp [Value.oneCell']) ?c3 ?c4 ?_)
        case c3 => unfold maxLen; omega
        case c4 => omega
        intro vY wY hownY hgY hatY
        have S4 := (S3.out.own_push (i := 2) rfl (bb _) hownY hgY (by simpa using hatY)).tail
        obtain ⟨aY, cY, rfl⟩ := own_slice hownY
        have hlen : c.length + 1 = (c ++ [z]).length := by simp
        have HS3 : Hid (Sp w wY [Own 9 1 (.slice (some ⟨b, off, none⟩) ps.length pc) ps.length (ps.map .string), Own 3 1 (.slice aY (c ++ [z]).length cY) (c ++ [z]).length ((c ++ [z]).map (.int .i64))]) := by
          unfold Hid; rw [← hlen, List.map_append]; exact S4
        have HW2 := Lib.hid (HW.out.snoc hzl hzu)
        have hi1 : IntKind.i64.wrap ((c.length : Int) + 1) = ((c ++ [z]).length : Int) := by rw [IntWalk.i64_in _ (by omega), ← hlen]; omega
        rw [hlen]
        have hl2 : (c ++ [z]).length ≤ ps.length := by omega
        have hl3 : (c ++ [z]).length ≤ 13 := by omega
        have hl4 : c.length < (c ++ [z]).length := by omega
        generalize c ++ [z] = c2 at *
        replace hlen := Lib.hid hlen
        clear S3 S4 kB hownY hgY hatY HW
        go_wp2_with fail
        go_roundw
        case rel => exact ⟨c2, aY, cY, hl2, hl3, rfl, rfl, HW2, HS3⟩
        case measure => simp [intOf]; omega
    case false =>
      clear hq
      obtain ⟨F, hr, _, _⟩ := own_row (HS.out.own (i := 1) rfl) (HW.out.i64 (by decide))
      obtain ⟨A', c', e', hI⟩ := ints_own (HS.out.own (i := 1) rfl) (HW.out.i64 (by decide))
      cases e'
      have hcl := Lib.hid (l2Clause_any vars _ c F _ (Ty.row_down hr))
      have htx := Lib.hid (fun W hb => l2TextW_any c HW.out (by omega) B cap W (hI.grow hb))
      clear hr hI
      go_upto_region 12 with fail
      go_cut [58] (fun v wx => ∃ q : Bool, v = .bool q ∧ Hid (q = false → clauseB vars c = true) ∧ Hid (Sp w wx [Own 9 1 (.slice PB ps.length pc) ps.length (ps.map .string), Own 3 1 (.slice B c.length cap) c.length (c.map (.int .i64))]))
      case first =>
        by_cases h12 : (12 : Int) < (ps.length : Int)
        · have d1 : decide ((12 : Int) < (ps.length : Int)) = true := decide_eq_true h12
          go_wp2_with fail
          go_meet
          exact ⟨true, rfl, (fun e => by cases e), HS⟩
        · have d1 : decide ((12 : Int) < (ps.length : Int)) = false := decide_eq_false h12
          obtain ⟨q, hq⟩ : ∃ q, clauseB vars c = q := ⟨_, rfl⟩
          rw [hq] at hcl
          go_wp2_with fail
          refine hcl.out.mono ?_
          rintro e w2 ⟨rfl, hb2⟩
          have S2 := Lib.hid (HS.out.grow hb2)
          have htx2 := Lib.hid (htx.out _ hb2)
          clear HS hcl htx hb2
          cases q
          · go_wp2_with fail
            go_meet
            exact ⟨true, rfl, (fun e => by cases e), S2⟩
          · go_wp2_with fail
            refine htx2.out.mono ?_
            rintro e w3 ⟨t, ht, rfl, hb3⟩
            have S3 := Lib.hid (S2.out.grow hb3)
            clear S2 htx2 hb3
            go_wp2_with fail
            go_meet
            exact ⟨_, rfl, fun _ => hq, S3⟩
      case rest =>
      clear HS hcl htx
      obtain ⟨q, rfl, hq, HS⟩ := hcut
      cases q
      · have hcb := hq.out rfl
        go_wp2_with fail
        go_ret2
        exact ⟨c, B, cap, true, rfl, HW.out, hk13, fun _ => hcb, HS.out.tail⟩
      · have S3 := Lib.hid (HS.out.own_made 3 1)
        clear HS
        go_wp2_with fail
        go_ret2
        exact ⟨[], _, _, false, rfl, fun x hx => by simp at hx, by simp, (fun e => by cases e), S3.out.swap.tail.swap.tail⟩
end Go.Proofs.YtbemodacpimiiaaGreat

/- Contract, a weak one: the text of a Cnf, in the reference. -/
namespace Go.Proofs.YtbemodacpimiiaaGreat
open Go.RowKit

/-- Clauses that are short and small. -/
def SmallC (xss : List (List Int)) : Prop := ∀ c ∈ xss, Within 1000000 c ∧ c.length ≤ 13

set_option maxRecDepth 100000 in
set_option maxHeartbeats 4000000 in
theorem l2TextOfW_any (vars : Int) (hv : -1000000 ≤ vars ∧ vars ≤ 1000000) (xss : List (List Int)) (hc : SmallC xss) (hl : xss.length ≤ 1000) (A : Option Addr) (cap : Nat) (w : World) (hx : ClsAt w A xss) :
    Calls Tryz.prog 148 #[.agg #[.int .i64 vars, .slice A xss.length cap]] w fun e w' => ∃ t : ByteArray, e = .returned (.string t) ∧ Below w.heap.size w w' := by
  have hN := Lib.hid hx
  have hcc := Lib.hid hc
  have S0 := (Sp.start w).alloc_box #[.int .i64 vars, .slice A xss.length cap] 45
  have c0 := S0.cell (i := 0) rfl (o := 0) rfl
  replace S0 := Lib.hid S0
  clear hx hc
  go_enter Tryz.func148, Tryz.ntmps148
  go_wp2_with fail
  refine (l1Num_any vars _ (by omega) (by omega)).mono ?_
  rintro e w1 ⟨rfl, hb1⟩
  have hsz : (ms (Lib.itoa vars)).size ≤ 14 := by rw [ms_size]; exact itoa_short hv.1 hv.2
  generalize ms (Lib.itoa vars) = t0 at *
  have S1 := Lib.hid (S0.out.grow hb1)
  clear S0 hb1 c0
  go_wp2_with fail
  go_loopw [3, 4] (fun vs vi wr => ∃ (k : Nat) (t : ByteArray), k ≤ xss.length ∧ vi = .int .i64 k ∧ vs = .string t ∧ t.size ≤ 300 * k + 20 ∧ Hid (Sp w wr [Box w.heap.size 45 #[.int .i64 vars, .slice A xss.length cap]])) (fun _ vi _ => xss.length - (intOf vi).toNat)
  case atStart => exact ⟨0, t0, Nat.zero_le _, rfl, rfl, by omega, S1⟩
  case round =>
    obtain ⟨k, t, hk, rfl, rfl, hts, HS⟩ := hrel
    clear S1
    have c1 := HS.out.cell (i := 0) rfl (o := 1) rfl
    by_cases hlt : k < xss.length
    · obtain ⟨b, off, Bc, cc, rfl, m0, hI⟩ := (hN.out.grow HS.out.below).at_ k hlt
      have hcl := hcc.out _ (List.getElem_mem hlt)
      have htx := Lib.hid (l2TextW_any xss[k] hcl.1 (by omega) Bc cc wr hI)
      have hl13 := hcl.2
      generalize xss[k] = c at *
      obtain ⟨t1, ht1⟩ : ∃ t1, ms (bl t ++ bl ⟨#[59, 32]⟩) = t1 := ⟨_, rfl⟩
      have hs1 : t1.size ≤ 300 * k + 22 := by
        rw [← ht1, ms_size, List.length_append, bl_length, bl_length]
        have : (⟨#[59, 32]⟩ : ByteArray).size = 2 := rfl
        omega
      have a1 := fun w' => run_add (P := Tryz.prog) w' t ⟨#[59, 32]⟩ (by have : (⟨#[59, 32]⟩ : ByteArray).size = 2 := rfl; omega)
      rw [ht1] at a1
      clear ht1 hI
      go_wp2_with fail
      refine htx.out.mono ?_
      rintro e w2 ⟨u, hu, rfl, hb2⟩
      obtain ⟨t2, ht2⟩ : ∃ t2, ms (bl t1 ++ bl u) = t2 := ⟨_, rfl⟩
      have hs2 : t2.size ≤ 300 * (k + 1) + 20 := by
        rw [← ht2, ms_size, List.length_append, bl_length, bl_length]
        omega
      have a2 := fun w' => run_add (P := Tryz.prog) w' t1 u (by omega)
      rw [ht2] at a2
      have S2 := Lib.hid (HS.out.grow hb2)
      clear ht2 HS hb2 m0 a1 c1 htx
      go_wp2_with fail
      go_roundw
      case rel => exact ⟨k + 1, t2, by omega, by go_num, rfl, hs2, S2⟩
      case measure => simp [intOf]; omega
    · obtain rfl : k = xss.length := by omega
      have hB := HS.out.below
      go_wp2_with fail
      go_ret
      exact ⟨t, rfl, hB⟩
end Go.Proofs.YtbemodacpimiiaaGreat

/- Memory in parts beside a cursor that turns: rows of rows. -/
namespace Go.Proofs.YtbemodacpimiiaaGreat
open Go.RowKit

/-- An own row of numbers is a row with all that it reaches. -/
theorem Sp.own_to_row {w0 w : World} {ps : List Asn} {e : TypeId} {v : Value} {c : List Int} (h : Sp w0 w (Own e 1 v c.length (c.map (.int .i64)) :: ps)) (hok : ∀ x ∈ c, I64 x) : Sp w0 w (Row Ty.int v c :: ps) := by
  obtain ⟨F, ⟨rfl, ho⟩, _, hall⟩ := h.upd (i := 0) rfl
  obtain ⟨F, hr, hF, _⟩ := Ty.row_of_owns (T := Ty.int) ho rfl (by decide) (Ty.all_int hok)
  refine hall w (Row Ty.int v c) F (Chg.refl _ _) ⟨hr, ?_⟩ fun b hb => .inl ?_
  · rcases hF with rfl | ⟨g, _, _, _, rfl⟩ <;> simp
  · rcases hF with rfl | ⟨g, _, _, hg, rfl⟩
    · simp at hb
    · simp [hg] at hb ⊢; exact hb
section
variable {w0 w w' w1 : World} {g cl cc A i : Nat} {ca : Option Addr} {ps : List Asn} {e : TypeId}
theorem CS.own_to_row {v : Value} {c : List Int} (h : CS w0 g ca cl cc A w (Own e 1 v c.length (c.map (.int .i64)) :: ps)) (hok : ∀ x ∈ c, I64 x) : CS w0 g ca cl cc A w (Row Ty.int v c :: ps) := by
  obtain ⟨F, ⟨rfl, ho⟩, _, hall⟩ := h.upd (i := 0) rfl
  obtain ⟨F, hr, hF, _⟩ := Ty.row_of_owns (T := Ty.int) ho rfl (by decide) (Ty.all_int hok)
  refine hall w (Row Ty.int v c) F (Chg.refl _ _) ⟨hr, ?_⟩ fun b hb => .inl ?_
  · rcases hF with rfl | ⟨g, _, _, _, rfl⟩ <;> simp
  · rcases hF with rfl | ⟨g, _, _, hg, rfl⟩
    · simp at hb
    · simp [hg] at hb ⊢; exact hb
variable {α : Type} {T : Ty α} {v v' u : Value} {cs : List Value} {xss : List (List α)} {ys : List α}
theorem CS.rows (h : CS w0 g ca cl cc A w ps) (hi : ps[i]? = some (Rows T e v cs xss)) : w.ownsRow 0 e 1 v xss.length cs := by
  obtain ⟨F, ⟨G, _, _, _, h⟩, _⟩ := h.get hi
  exact h
theorem CS.rows_made (h : CS w0 g ca cl cc A w ps) (T : Ty α) (e : TypeId) : CS w0 g ca cl cc A (w.alloc (.cells #[] e)) (Rows T e (.slice (some ⟨w.heap.size, 0, none⟩) 0 0) [] [] :: ps) :=
  h.new (F := [w.heap.size]) (bal (bb _) _) ⟨[], rfl, by simp, ⟨rfl, rfl⟩, ⟨by simp, .inr ⟨w.heap.size, 0, #[], rfl, Nat.zero_le _, heap_alloc_new w _, Nat.le_refl _, by decide, by simp, by simp⟩⟩⟩ (by simp)
/-- A row goes into a row of rows. -/
theorem CS.rows_push (h : CS w0 g ca cl cc A w (Row T u ys :: Rows T e v cs xss :: ps)) (hb : Below w.heap.size w w1) (ho : w'.ownsRow 0 e 1 v' (xss.length + 1) (cs ++ [u])) (hg : w1.grownBy w' v.ownBlock)
    (hat : v'.ownBlock = v.ownBlock ∨ v'.ownBlock = some w1.heap.size) : CS w0 g ca cl cc A w' (Rows T e v' (cs ++ [u]) (xss ++ [ys]) :: ps) := by
  have hsz := h.chg.size
  obtain ⟨⟨A0, h0'⟩, hcur, h1, F, ⟨F1, F2, rfl, hd, ⟨hr, hn⟩, ⟨F3, F4, rfl, hd', ⟨G, rfl, hn', hall, hown⟩, h5⟩⟩, h3⟩ := h
  have hr1 := Ty.row_keep hr fun b hm => hb.block b (Ty.row_lt hr b hm)
  have hall1 := Ty.all_keep hall fun b hm => hb.block b (Ty.all_lt hall b hm)
  have h51 := sep_keep h5 fun b hm => hb.block b (sep_lt h5 b hm)
  have hkeep : ∀ b, b < w.heap.size → (∀ g, v.ownBlock = some g → b ≠ g) → w'.heap[b]? = w1.heap[b]? := fun b hlt hne => hg.block b (Nat.lt_of_lt_of_le hlt hb.size) (fun e => hne b e.symm rfl)
  have hr2 := Ty.row_keep hr1 fun b hm => hkeep b (Ty.row_lt hr b hm) fun g hg' e => hd b hm (by simp [hg', e])
  have hnG : ∀ b ∈ G, ∀ g, v.ownBlock = some g → b ≠ g := fun b hm g hg' e => by
    rw [List.nodup_append] at hn'
    exact hn'.2.2 g (by simp [hg']) b hm e.symm
  have hall2 := Ty.all_keep hall1 fun b hm => hkeep b (Ty.all_lt hall b hm) (hnG b hm)
  have h52 := sep_keep h51 fun b hm => hkeep b (sep_lt h5 b hm) fun g hg' e => hd' b (by simp [hg', e]) hm
  have hlv : ∀ b ∈ v'.ownBlock.toList, b ∈ v.ownBlock.toList ∨ b = w1.heap.size := fun b hm => by
    rcases hat with h | h
    · left; rwa [h] at hm
    · right; rw [h] at hm; simpa using hm
  have hs := hb.size
  have hold : ∀ k, k < w0.heap.size → w'.heap[k]? = w.heap[k]? := fun k hk => (hkeep k (by omega) fun g hg' e => by have := h3 g (by simp [hg']); omega).trans (hb.block k (by omega))
  have hchg : Chg [g] w0 w' := ⟨hg.os.trans (hb.os.trans h1.os), hg.tape.trans (hb.tape.trans h1.tape), hg.output.trans (hb.output.trans h1.output), by have := hg.size; omega, fun k hk hn => (hold k hk).trans (h1.block k hk hn)⟩
  refine ⟨⟨A0, h0'⟩, h0'.stay hcur hold, hchg, (v'.ownBlock.toList ++ (G ++ F1)) ++ F4, ⟨_, F4, rfl, ?_, ⟨G ++ F1, rfl, ?_, ?_, by simpa using ho⟩, h52⟩, ?_⟩
  · intro b hm hm4
    rcases List.mem_append.1 hm with hm | hm
    · rcases hlv b hm with h | h
      · exact hd' b (List.mem_append.2 (.inl h)) hm4
      · have := sep_lt h5 b hm4; omega
    · rcases List.mem_append.1 hm with hm | hm
      · exact hd' b (List.mem_append.2 (.inr hm)) hm4
      · exact hd b hm (List.mem_append.2 (.inr hm4))
  · refine List.nodup_append.2 ⟨by cases v'.ownBlock <;> simp, List.nodup_append.2 ⟨(List.nodup_append.1 hn').2.1, hn, fun x hx y hy e => hd y hy (by simp [← e, hx])⟩, fun x hx y hy e => ?_⟩
    subst e
    rcases hlv x hx with h | h
    · rcases List.mem_append.1 hy with hy | hy
      · exact (List.nodup_append.1 hn').2.2 x h x hy rfl
      · exact hd x hy (List.mem_append.2 (.inl (List.mem_append.2 (.inl h))))
    · rcases List.mem_append.1 hy with hy | hy
      · have := Ty.all_lt hall x hy; omega
      · have := Ty.row_lt hr x hy; omega
  · exact Ty.all_snoc hall2 ⟨u, rfl, hr2⟩
  · intro b hm
    rcases List.mem_append.1 hm with hm | hm
    · rcases List.mem_append.1 hm with hm | hm
      · rcases hlv b hm with h | h
        · exact h3 b (by simp at h ⊢; simp [h])
        · omega
      · rcases List.mem_append.1 hm with hm | hm
        · exact h3 b (by simp [hm])
        · exact h3 b (by simp [hm])
    · exact h3 b (by simp [hm])
/-- The finished row of rows. -/
theorem CS.rows_done (h : CS w0 g ca cl cc A w ps) (hi : ps[i]? = some (Rows T e v cs xss)) : ∃ F, (Ty.slice T).row true w v xss F ∧ F.Nodup ∧ (∀ b ∈ F, w0.heap.size ≤ b) := by
  obtain ⟨F, ⟨G, rfl, hn, hall, hown⟩, hF⟩ := h.get hi
  obtain ⟨F', hr, hF', _⟩ := Ty.row_of_owns hown rfl (by decide) hall
  rcases hF' with rfl | ⟨g, _, _, ho, rfl⟩
  · exact ⟨[], hr, by simp, by simp⟩
  · refine ⟨g :: G, hr, ?_, ?_⟩
    · rw [ho] at hn; simpa using hn
    · rw [ho] at hF; simpa using hF
end
end Go.Proofs.YtbemodacpimiiaaGreat

/- Contracts, weak ones: a Cnf read from a text, in the reference. -/
namespace Go.Proofs.YtbemodacpimiiaaGreat
open Go.RowKit

theorem sep_front : ∀ {qs ps : List Asn} {w : World} {F : List Nat}, sep (qs ++ ps) w F → ∃ F1, sep qs w F1 ∧ ∀ b ∈ F1, b ∈ F
  | [], ps, w, F, _ => ⟨[], rfl, by simp⟩
  | q :: qs, ps, w, F, h => by
    obtain ⟨F1, F2, rfl, h1, h2, h3⟩ := h
    obtain ⟨F3, h4, h5⟩ := sep_front h3
    refine ⟨F1 ++ F3, ⟨F1, F3, rfl, fun b hb hb2 => h1 b hb (h5 b hb2), h2, h4⟩, fun b hb => ?_⟩
    rcases List.mem_append.1 hb with h | h
    · exact List.mem_append.2 (.inl h)
    · exact List.mem_append.2 (.inr (h5 b h))
/-- The parts behind are let go. -/
theorem Sp.front {w0 w : World} {ps qs : List Asn} (h : Sp w0 w (qs ++ ps)) : Sp w0 w qs := by
  obtain ⟨h1, G, h2, h3⟩ := h
  obtain ⟨F, h4, h5⟩ := sep_front h2
  exact ⟨h1, F, h4, fun b hb => h3 b (h5 b hb)⟩
/-- A small Cnf of its own, and whether there is one. -/
def CnfW (w : World) (e : Ending) (w' : World) : Prop := ∃ (vars : Int) (B : Option Addr) (cap : Nat) (cs : List Value) (xss : List (List Int)) (q : Bool), e = .returned (.tuple #[.agg #[.int .i64 vars, .slice B xss.length cap], .bool q]) ∧ 0 ≤ vars ∧ vars ≤ 12 ∧ xss.length ≤ 60 ∧ SmallC xss ∧
  Sp w w' [Rows Ty.int 37 (.slice B xss.length cap) cs xss]
theorem cnfW_no {w w' : World} (hb : Below w.heap.size w w') : CnfW w (.returned (.tuple #[.agg #[.int .i64 0, .slice none 0 0], .bool false])) w' :=
  ⟨0, none, 0, [], [], false, rfl, by decide, by decide, by simp, (fun c hc => by simp at hc), (Sp.of_below hb).rows_nil _ _⟩

set_option maxRecDepth 100000 in
set_option maxHeartbeats 2000000 in
theorem parseCnfW_any (s : ByteArray) (w : World) (hs : s.size ≤ 100000) : Calls Tryz.prog 138 #[.string s] w (CnfW w) := by
  have S0 := Lib.hid ((Sp.start w).alloc_box #[.int .i64 0, .slice none 0 0] 45)
  obtain ⟨i0, hi, hz0, hz1, hz2⟩ := info_parts infoRow
  go_enter Tryz.func138, Tryz.ntmps138
  go_wp2_with fail
  refine (l1SplitW_any s 59 _ hs).mono ?_
  rintro e w1 ⟨ps, PB, pc, rfl, hps0, hps1, HL, T1⟩
  have S1 : Sp w w1 [Own 9 1 (.slice PB ps.length pc) ps.length (ps.map .string), Box w.heap.size 45 #[.int .i64 0, .slice none 0 0]] := S0.out.seq T1
  obtain ⟨pb, po, rfl, m0⟩ := strs_own (S1.own (i := 0) rfl) hps0
  rw [Nat.add_zero] at m0
  replace S1 := Lib.hid S1
  have hsz := HL _ (List.getElem_mem hps0)
  have hrd := Lib.hid (fun W => l1ReadW_any ps[0] W (by omega))
  replace HL := Lib.hid HL
  generalize ps[0] = p0 at *
  clear S0 T1
  go_wp2_with fail
  refine (hrd.out _).mono ?_
  rintro e w2 ⟨⟨vars, q0, hvl, hvu, rfl⟩, hb2⟩
  have S2 := Lib.hid (S1.out.grow hb2)
  clear S1 hrd hb2 m0 hsz
  go_upto_region 3 with fail
  go_cut [31] (fun v wx => ∃ q : Bool, v = .bool q ∧ Hid (q = false → inB vars 0 12 = true ∧ ps.length ≤ 61) ∧ Hid (Sp w wx [Own 9 1 (.slice (some ⟨pb, po, none⟩) ps.length pc) ps.length (ps.map .string), Box w.heap.size 45 #[.int .i64 0, .slice none 0 0]]))
  case first =>
    cases q0
    · go_wp2_with fail
      go_meet
      exact ⟨true, rfl, (fun e => by cases e), S2⟩
    · obtain ⟨q1, hq1⟩ : ∃ q, inB vars 0 12 = q := ⟨_, rfl⟩
      go_wp2_with fail
      refine (l2Vars_any _ _).mono ?_
      rw [hq1]
      rintro e w3 ⟨rfl, rfl⟩
      cases q1
      · go_wp2_with fail
        go_meet
        exact ⟨true, rfl, (fun e => by cases e), S2⟩
      · by_cases h61 : (61 : Int) < (ps.length : Int)
        · have d1 : decide ((61 : Int) < (ps.length : Int)) = true := decide_eq_true h61
          go_wp2_with fail
          go_meet
          exact ⟨true, rfl, (fun e => by cases e), S2⟩
        · have d1 : decide ((61 : Int) < (ps.length : Int)) = false := decide_eq_false h61
          go_wp2_with fail
          go_meet
          exact ⟨false, rfl, fun _ => ⟨hq1, by omega⟩, S2⟩
  case rest =>
  clear S2
  obtain ⟨q, rfl, hq, S2⟩ := hcut
  cases q
  case true =>
    have r0 := S2.out.cell (i := 1) rfl (o := 0) rfl
    have r1 := S2.out.cell (i := 1) rfl (o := 1) rfl
    have f0 := S2.out.frozen (i := 1) rfl 0
    have f1 := S2.out.frozen (i := 1) rfl 1
    have SF := (S2.out.store (i := 1) rfl 0 (.int .i64 0)).store (i := 1) rfl 1 (.slice none 0 0)
    have j0 := SF.cell (i := 1) rfl (o := 0) rfl
    have j1 := SF.cell (i := 1) rfl (o := 1) rfl
    have hB := Lib.hid SF.below
    clear SF
    go_wp2_with fail
    exact bodyPost_ret (v := .tuple #[.agg #[.int .i64 0, .slice none 0 0], .bool false]) (by simp [results, Tryz.results138, go_sem, j0, j1]) rfl (cnfW_no hB.out)
  case false =>
  obtain ⟨hv12, hp61⟩ := hq.out rfl
  have hvv : 0 ≤ vars ∧ vars ≤ 12 := by unfold inB at hv12; simpa using hv12
  clear hq
  have S3 := (S2.out.rows_made Ty.int 37).alloc_box #[.int .i64 vars, .slice (some ⟨wc.heap.size, 0, none⟩) 0 0] 45
  simp only [World.size_alloc] at S3
  obtain ⟨ob, hob⟩ : ∃ ob, wc.heap.size + 1 = ob := ⟨_, rfl⟩
  rw [hob] at S3
  have S4 : Hid (Sp w _ [Rows Ty.int 37 (.slice (some ⟨wc.heap.size, 0, none⟩) ([] : List (List Int)).length 0) [] ([] : List (List Int)), Box ob 45 #[.int .i64 vars, .slice (some ⟨wc.heap.size, 0, none⟩) ([] : List (List Int)).length 0], Own 9 1 (.slice (some ⟨pb, po, none⟩) ps.length pc) ps.length (ps.map .string), Box w.heap.size 45 #[.int .i64 0, .slice none 0 0]]) := S3.swap
  clear S2 S3
  go_wp2_with fail
  go_loopw [8, 9, 10] (fun vi _ _ wr => ∃ (xss : List (List Int)) (cs : List Value) (B : Option Addr) (cap : Nat) (i : Int), xss.length + 1 ≤ ps.length ∧ vi = .int .i64 i ∧ Hid (i = (xss.length : Int) + 1) ∧ Hid (SmallC xss) ∧ Hid (Sp w wr [Rows Ty.int 37 (.slice B xss.length cap) cs xss, Box ob 45 #[.int .i64 vars, .slice B xss.length cap], Own 9 1 (.slice (some ⟨pb, po, none⟩) ps.length pc) ps.length (ps.map .string), Box w.heap.size 45 #[.int .i64 0, .slice none 0 0]])) (fun vi _ _ _ => ps.length - (intOf vi).toNat)
  case atStart => exact ⟨[], [], _, _, 1, by simp; omega, rfl, rfl, (fun c hc => by simp at hc), S4⟩
  case round =>
    obtain ⟨xss, cs, B, cap, i, hk, rfl, hie, HC, HS⟩ := hrel
    clear S4
    have hie' := hie.out
    by_cases hlt : xss.length + 1 < ps.length
    · have hil : i < (ps.length : Int) := by omega
      have hi0 : 0 ≤ i := by omega
      have hiw : IntKind.i64.wrap (i + 1) = i + 1 := IntWalk.i64_in _ (by omega)
      obtain ⟨j, hj⟩ : ∃ j : Nat, i = (j : Int) := ⟨i.toNat, by omega⟩
      have hjl : j < ps.length := by omega
      obtain ⟨b', o', e', m0⟩ := strs_own (HS.out.own (i := 2) rfl) hjl
      cases e'
      have hsz := HL.out _ (List.getElem_mem hjl)
      subst hj
      have hjx : Hid (j = xss.length + 1) := by unfold Hid; omega
      clear hie hie' hi0
      generalize ps[j] = p at *
      go_upto_region 9 with fail
      go_cut [55] (fun v wx => ∃ q : Bool, v = .bool q ∧ Hid (q = false → 2 ≤ p.size) ∧ wx = wr)
      case first =>
        by_cases h2 : (p.size : Int) < 2
        · have d1 : decide ((p.size : Int) < 2) = true := decide_eq_true h2
          go_wp2_with fail
          go_meet
          exact ⟨true, rfl, (fun e => by cases e), rfl⟩
        · have d1 : decide ((p.size : Int) < 2) = false := decide_eq_false h2
          have h0 : 0 < p.size := by omega
          go_wp2_with fail
          go_meet
          exact ⟨_, rfl, fun _ => by omega, rfl⟩
      case rest =>
      obtain ⟨q, rfl, hq, hw3⟩ := hcut
      subst hw3
      cases q
      case true =>
        have r0 := HS.out.cell (i := 3) rfl (o := 0) rfl
        have r1 := HS.out.cell (i := 3) rfl (o := 1) rfl
        have f0 := HS.out.frozen (i := 3) rfl 0
        have f1 := HS.out.frozen (i := 3) rfl 1
        have SF := (HS.out.store (i := 3) rfl 0 (.int .i64 0)).store (i := 3) rfl 1 (.slice none 0 0)
        have j0 := SF.cell (i := 3) rfl (o := 0) rfl
        have j1 := SF.cell (i := 3) rfl (o := 1) rfl
        have hB := Lib.hid SF.below
        clear SF
        go_wp2_with fail
        exact bodyPost_ret (v := .tuple #[.agg #[.int .i64 0, .slice none 0 0], .bool false]) (by simp [results, Tryz.results138, go_sem, j0, j1]) rfl (cnfW_no hB.out)
      case false =>
      have h2 := hq.out rfl
      have h2' : (1 : Int) ≤ (p.size : Int) := by omega
      have hx := ext_le p 1 p.size
      have hpa := Lib.hid (fun W => l2ParseW_any vars (p.extract 1 p.size) W (by omega))
      clear hq hx
      go_wp2_with fail
      refine (hpa.out _).mono ?_
      rintro e w4 ⟨c, Bc, kc, qc, rfl, hcw, hcl, -, T4⟩
      have S4 := HS.out.seq T4
      have S5 := Lib.hid (S4.own_to_row (hcw.i64 (by decide)))
      clear HS S4 T4 hpa m0
      cases qc
      case false =>
        have r0 := S5.out.cell (i := 4) rfl (o := 0) rfl
        have r1 := S5.out.cell (i := 4) rfl (o := 1) rfl
        have f0 := S5.out.frozen (i := 4) rfl 0
        have f1 := S5.out.frozen (i := 4) rfl 1
        have SF := (S5.out.store (i := 4) rfl 0 (.int .i64 0)).store (i := 4) rfl 1 (.slice none 0 0)
        have j0 := SF.cell (i := 4) rfl (o := 0) rfl
        have j1 := SF.cell (i := 4) rfl (o := 1) rfl
        have hB := Lib.hid SF.below
        clear SF
        go_wp2_with fail
        exact bodyPost_ret (v := .tuple #[.agg #[.int .i64 0, .slice none 0 0], .bool false]) (by simp [results, Tryz.results138, go_sem, j0, j1]) rfl (cnfW_no hB.out)
      case true =>
      have l1 := S5.out.cell (i := 2) rfl (o := 1) rfl
      have hrows := Lib.hid ((S5.out.rows (i := 1) rfl).alloc (.cells #[.slice Bc c.length kc] 37))
      have hbl := (S5.out.box (i := 2) rfl).2.1
      have l1a := ((bcell (bal (bb w4) (.cells #[.slice Bc c.length kc] 37))).1 _ 1 hbl).trans l1
      have kB : (w4.alloc (.cells #[.slice Bc c.length kc] 37)).cell? ⟨w4.heap.size, 0, none⟩ = some (.slice Bc c.length kc) := cell_of_row _ _ _ _ _ _ (heap_alloc_new w4 _)
      go_wp2_with (at_builtin; refine wpList_append_src rfl _ _ rfl Tryz.underlying43 hi hz0 hz1 hz2 rfl (by decide) _ xss.length _ rfl hrows.out _ 1 1 [.slice Bc c.length kc] rfl (Src.one kB) (by simp [Value.oneCell']) ?c3 ?c4 ?_)
      case c3 => unfold maxLen; omega
      case c4 => omega
      intro vY wY hownY hgY hatY
      have S6 := S5.out.rows_push (bal (bb _) _) hownY hgY (by simpa using hatY)
      obtain ⟨aY, cY, rfl⟩ := own_slice hownY
      have b1 := S6.cell (i := 1) rfl (o := 1) rfl
      have q1 := S6.frozen (i := 1) rfl 1
      have hlen : xss.length + 1 = (xss ++ [c]).length := by simp
      have S7 : Hid (Sp w (wY.setCell ⟨ob, 1, none⟩ (.slice aY (xss.length + 1) cY)) [Rows Ty.int 37 (.slice aY (xss ++ [c]).length cY) (cs ++ [.slice Bc c.length kc]) (xss ++ [c]), Box ob 45 #[.int .i64 vars, .slice aY (xss ++ [c]).length cY], Own 9 1 (.slice (some ⟨pb, po, none⟩) ps.length pc) ps.length (ps.map .string), Box w.heap.size 45 #[.int .i64 0, .slice none 0 0]]) := by
        unfold Hid; rw [← hlen]
        have := S6.store (i := 1) rfl 1 (.slice aY (xss.length + 1) cY)
        rw [hlen] at this ⊢
        exact this
      have HC2 : Hid (SmallC (xss ++ [c])) := fun y hy => by
        rcases List.mem_append.1 hy with hy | hy
        · exact HC.out y hy
        · obtain rfl : y = c := by simpa using hy
          exact ⟨hcw, hcl⟩
      clear S5 S6 hrows hownY hgY hatY kB l1 l1a hbl
      replace hlen := Lib.hid hlen
      go_wp2_with fail
      go_roundw
      case rel => exact ⟨xss ++ [c], cs ++ [.slice Bc c.length kc], aY, cY, (j : Int) + 1, by have := hlen.out; omega, rfl, by unfold Hid; have := hlen.out; have := hjx.out; omega, HC2, S7⟩
      case measure => have := hjx.out; simp [intOf]; omega
    · have hil : ¬ i < (ps.length : Int) := by omega
      clear hie hie'
      obtain ⟨F, hr, hFn, hF0⟩ := HS.out.rows_done (i := 0) rfl
      obtain ⟨A', c', e', hI⟩ := cls_row hr
      cases e'
      have l0 := HS.out.cell (i := 1) rfl (o := 0) rfl
      have l1 := HS.out.cell (i := 1) rfl (o := 1) rfl
      have htx := Lib.hid (l2TextOfW_any vars (by omega) xss HC.out (by omega) B cap wr hI)
      clear hI hr hF0 hFn
      go_wp2_with fail
      refine htx.out.mono ?_
      rintro e w5 ⟨t, rfl, hb5⟩
      have S5 := Lib.hid (HS.out.grow hb5)
      clear HS htx hb5 l0 l1
      obtain ⟨q, hq⟩ : ∃ q, (bl t == bl s) = q := ⟨_, rfl⟩
      cases q
      · have r0 := S5.out.cell (i := 3) rfl (o := 0) rfl
        have r1 := S5.out.cell (i := 3) rfl (o := 1) rfl
        have f0 := S5.out.frozen (i := 3) rfl 0
        have f1 := S5.out.frozen (i := 3) rfl 1
        have SF := (S5.out.store (i := 3) rfl 0 (.int .i64 0)).store (i := 3) rfl 1 (.slice none 0 0)
        have j0 := SF.cell (i := 3) rfl (o := 0) rfl
        have j1 := SF.cell (i := 3) rfl (o := 1) rfl
        have hB := Lib.hid SF.below
        clear SF
        go_wp2_with fail
        exact bodyPost_ret (v := .tuple #[.agg #[.int .i64 0, .slice none 0 0], .bool false]) (by simp [results, Tryz.results138, go_sem, j0, j1]) rfl (cnfW_no hB.out)
      · have l0 := S5.out.cell (i := 1) rfl (o := 0) rfl
        have l1 := S5.out.cell (i := 1) rfl (o := 1) rfl
        have r0 := S5.out.cell (i := 3) rfl (o := 0) rfl
        have r1 := S5.out.cell (i := 3) rfl (o := 1) rfl
        have f0 := S5.out.frozen (i := 3) rfl 0
        have f1 := S5.out.frozen (i := 3) rfl 1
        have SF := (S5.out.store (i := 3) rfl 0 (.int .i64 vars)).store (i := 3) rfl 1 (.slice B xss.length cap)
        have j0 := SF.cell (i := 3) rfl (o := 0) rfl
        have j1 := SF.cell (i := 3) rfl (o := 1) rfl
        have hR := Lib.hid (Sp.front (qs := [_]) SF)
        clear SF S5
        go_wp2_with fail
        exact bodyPost_ret (v := .tuple #[.agg #[.int .i64 vars, .slice B xss.length cap], .bool true]) (by simp [results, Tryz.results138, go_sem, j0, j1]) rfl ⟨vars, B, cap, cs, xss, true, rfl, hvv.1, hvv.2, by omega, HC.out, hR.out⟩
end Go.Proofs.YtbemodacpimiiaaGreat

/- Contracts: the trace of a Cnf, in the program. -/
namespace Go.Proofs.YtbemodacpimiiaaGreat
open Go.RowKit

/-- A list of diagrams that is told. -/
def DgL (w : World) (L : List (Int × List Nd)) (v : Value) (w' : World) : Prop := ∃ (B : Option Addr) (c : Nat) (ks : List Dk), v = .slice B ks.length c ∧ ks.map Dk.d = L ∧ Sp w w' (DList v ks)

/- left out: the seat has no impl.trace -/
end Go.Proofs.YtbemodacpimiiaaGreat

/- Contracts: conjunction traces, their sizes, traces that are told, in the program. -/
namespace Go.Proofs.YtbemodacpimiiaaGreat
open Go.RowKit

def outL (ok : Bool) (vars : Int) (xss : List (List Int)) : List (Int × List Nd) := if ok then trL vars.toNat xss xss.length else []
def szL (L : List (Int × List Nd)) : List Int := L.map fun d => (d.2.length : Int)
theorem szL_len (L : List (Int × List Nd)) : (szL L).length = L.length := by simp [szL]
theorem tr_small {n : Nat} (hn : n ≤ 6) (xss : List (List Int)) (k : Nat) : ∀ d ∈ trL n xss k, d.2.length ≤ 63 := fun d hd => by
  unfold trL at hd
  obtain ⟨i, -, rfl⟩ := List.mem_map.1 hd
  exact dg_len _ hn
/-- A list of diagrams and whether there is one. -/
def TrTold (w : World) (ok : Bool) (L : List (Int × List Nd)) (e : Ending) (w' : World) : Prop :=
  ∃ (B : Option Addr) (c : Nat) (ks : List Dk), e = .returned (.tuple #[.slice B ks.length c, .bool ok]) ∧ ks.map Dk.d = L ∧ Sp w w' (DList (.slice B ks.length c) ks)
/-- Numbers and whether there are any. -/
def SzTold (w : World) (ok : Bool) (z : List Int) (e : Ending) (w' : World) : Prop :=
  ∃ (B : Option Addr) (c : Nat), e = .returned (.tuple #[.slice B z.length c, .bool ok]) ∧ IntsAt w' B z ∧ Below w.heap.size w w'

theorem cnf_row {vars : Int} {v : Value} {xss : List (List Int)} {F : List Nat} {w : World} (hx : (Ty.slice Ty.int).row false w v xss F) : ∃ A cap, v = .slice A xss.length cap ∧ xss.length ≤ cap ∧ ClsAt w A xss := by
  obtain ⟨A, cap, rfl, hI⟩ := cls_row hx
  obtain ⟨_, _, e, h1, -⟩ := Ty.row_len hx
  cases e
  exact ⟨A, cap, rfl, h1, hI⟩

/- left out: the seat has no impl.ConjunctionTrace -/

/- left out: the seat has no impl.ConjunctionSizes -/

/-- Two lists of diagrams are compared. -/
theorem dgs_take {ds es : List (Int × List Nd)} {k : Nat} (h1 : k < ds.length) (h2 : k < es.length) (h : ds.take k = es.take k) (e : ds[k].1 = es[k].1 ∧ ds[k].2 = es[k].2) : ds.take (k + 1) = es.take (k + 1) :=
  take_same h1 h2 h (Prod.ext e.1 e.2)

/- left out: the seat has no slices.EqualFunc[[]loop.example/g01080/impl.Diagram,[]loop.example/g01080/impl.Diagram,loop.example/g01080/impl.Diagram,loop.example/g01080/impl.Diagram] -/

/- left out: the seat has no impl.IsConjunctionTrace -/
end Go.Proofs.YtbemodacpimiiaaGreat

/- Contracts: the trace of a Cnf, in the reference. -/
namespace Go.Proofs.YtbemodacpimiiaaGreat
open Go.RowKit

set_option maxRecDepth 100000 in
set_option maxHeartbeats 4000000 in
theorem l26Asked_any (vars : Int) (v : Value) (xss : List (List Int)) (F : List Nat) (w : World) (hx : (Ty.slice Ty.int).row false w v xss F) :
    Calls Tryz.prog 62 #[.agg #[.int .i64 vars, v]] w fun e w' => e = .returned (.bool (dCnf vars xss)) ∧ Below w.heap.size w w' := by
  obtain ⟨A, cap, rfl, -⟩ := cls_row hx
  have S0 := (Sp.start w).alloc_box #[.int .i64 vars, .slice A xss.length cap] 45
  have hcall := Lib.hid (l2Good_any vars _ xss F _ (Ty.row_below hx S0.below (Ty.row_lt hx)))
  have hv := Lib.hid (fun W => l26Vars_any vars W)
  have c0 := S0.cell (i := 0) rfl (o := 0) rfl
  have c1 := S0.cell (i := 0) rfl (o := 1) rfl
  have hB := Lib.hid S0.below
  clear hx S0
  unfold dCnf
  generalize inB vars 0 6 = p at *
  generalize goodB vars xss = q at *
  cases p
  · clear hcall
    go_enter Tryz.func62, Tryz.ntmps62
    go_wp2_with fail
    refine (hv.out _).mono ?_
    rintro e w1 ⟨rfl, rfl⟩
    go_wp2_with fail
    go_ret
    exact ⟨rfl, hB.out⟩
  · go_enter Tryz.func62, Tryz.ntmps62
    go_wp2_with fail
    refine (hv.out _).mono ?_
    rintro e w1 ⟨rfl, rfl⟩
    go_wp2_with fail
    refine hcall.out.mono ?_
    rintro e w2 ⟨rfl, hb2⟩
    have hB2 := btr hB.out hb2
    clear hcall hB c0 c1 hb2
    go_wp2_with fail
    go_ret
    exact ⟨rfl, hB2⟩

/- left out: the seat has no spec.l26Trace -/
end Go.Proofs.YtbemodacpimiiaaGreat
