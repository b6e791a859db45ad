/- Lemmas and contracts for a law, put together out of several texts: TcA MdK MdS PnC AsE AsF AsG AsH AsI AsJ. -/
import Derived.Test.YtmikconjhmhekaaMg3
import Derived.Test.YtmikconjhmhekaaMg4
import Derived.Test.YtmikconjhmhekaaMg5
import Derived.Test.YtmikconjhmhekaaMg6
import Derived.Test.YtmikconjhmhekaaMg1
import Derived.Test.YtmikconjhmhekaaMg7
import Derived.Laws.BitsLemmas
import Derived.Test.YtmikconjhmhekaaShelfB
/- Contracts: total assignments and the value of a clause, in the reference. -/
namespace Go.Proofs.Ytmikconjhmhekaa
open Go.RowKit

/-- The total assignment of bits. -/
def totI (b i : Nat) : Int := if b.testBit i then (i : Int) + 1 else -((i : Int) + 1)
def totB (n b : Nat) : List Int := (List.range n).map (totI b)
theorem tot_len (n b : Nat) : (totB n b).length = n := by simp [totB]
theorem tot_snoc (n b : Nat) : totB (n + 1) b = totB n b ++ [totI b n] := by simp [totB, List.range_succ]
theorem tot_ok (n b : Nat) (hn : n ≤ 1000) : ∀ x ∈ totB n b, I64 x := by
  intro x hx
  obtain ⟨i, hi, rfl⟩ := List.mem_map.1 hx
  have := List.mem_range.1 hi
  unfold totI I64
  split <;> omega
theorem has_tot {n b : Nat} {l : Int} (h0 : l ≠ 0) (h1 : -(n : Int) ≤ l) (h2 : l ≤ n) : hasI (totB n b) l = litT b l := by
  unfold hasI litT
  rw [Bool.eq_iff_iff, List.contains_iff_mem]
  constructor
  · intro hm
    obtain ⟨i, hi, he⟩ := List.mem_map.1 hm
    unfold totI at he
    by_cases ht : b.testBit i = true
    · rw [if_pos ht] at he
      rw [show l.natAbs - 1 = i by omega, ht, decide_eq_true (by omega)]; rfl
    · rw [if_neg ht] at he
      rw [show l.natAbs - 1 = i by omega, Bool.eq_false_iff.2 ht, decide_eq_false (by omega)]; rfl
  · intro hb
    refine List.mem_map.2 ⟨l.natAbs - 1, List.mem_range.2 (by omega), ?_⟩
    unfold totI
    by_cases hp : 0 < l
    · rw [decide_eq_true hp] at hb
      have : b.testBit (l.natAbs - 1) = true := by simpa using hb
      rw [if_pos this]; omega
    · rw [decide_eq_false hp] at hb
      have : b.testBit (l.natAbs - 1) = false := by simpa using hb
      rw [this, if_neg (by simp)]; omega

set_option maxRecDepth 100000 in
set_option maxHeartbeats 4000000 in
theorem l3Total_any (n b : Nat) (hn : n ≤ 12) (hb : b < 2 ^ 62) (w : World) :
    Calls Try.prog 170 #[.int .i64 n, .int .i64 b] w fun e w' => ∃ B k, e = .returned (.slice B n k) ∧ Sp w w' [Own 3 1 (.slice B n k) n ((totB n b).map (.int .i64))] := by
  have S0 := Lib.hid ((Sp.start w).own_made 3 1)
  obtain ⟨i0, hi, hz0, hz1, hz2⟩ := info_parts infoInt
  go_enter Try.func170, Try.ntmps170
  go_wp2_with fail
  go_loopw [5, 6] (fun vo vi wr => ∃ (k : Nat) (v : Int) (B : Option Addr) (cc : Nat), k ≤ n ∧ vi = .int .i64 v ∧ Hid (v = (k : Int) + 1) ∧ vo = .slice B k cc ∧ Hid (Sp w wr [Own 3 1 (.slice B k cc) k ((totB k b).map (.int .i64))])) (fun _ vi _ => n + 1 - (intOf vi).toNat)
  case atStart => exact ⟨0, 1, _, _, Nat.zero_le _, rfl, rfl, rfl, S0⟩
  case round =>
    obtain ⟨k, v, B, cc, hk, rfl, hve, rfl, HS⟩ := hrel
    clear S0
    have hve' := hve.out
    by_cases hlt : k < n
    · have hle : v ≤ (n : Int) := by omega
      have hv0 : 1 ≤ v := by omega
      have hand := bit_at b hb k
      rw [Nat.min_eq_left (by omega)] at hand
      have hw1 : IntKind.i64.wrap (v - 1) = (k : Int) := by rw [IntWalk.i64_in _ (by omega)]; omega
      have hw2 : IntKind.i64.wrap (k : Int) = (k : Int) := by rw [IntWalk.i64_in _ (by omega)]
      have hw3 : IntKind.i64.wrap (-v) = -v := by rw [IntWalk.i64_in _ (by omega)]
      have hw4 : IntKind.i64.wrap (v + 1) = v + 1 := by rw [IntWalk.i64_in _ (by omega)]
      have hsn := Lib.hid (tot_snoc k b)
      have htI : Hid (totI b k = if b.testBit k then v else -v) := by unfold Hid totI; rw [hve']
      have hk12 : k ≤ 12 := by omega
      clear hve'
      generalize b.testBit k = q at *
      cases q
      · simp only [Bool.false_eq_true, if_false] at hand htI
        have S2 := HS.out.alloc_box #[.int .i64 (-v)] 3
        have kB := S2.cell (i := 0) rfl (o := 0) rfl
        replace S2 := Lib.hid S2
        clear HS
        go_wp2_with (at_builtin; refine wpList_append_src rfl _ _ rfl Try.underlying30 hi hz0 hz1 hz2 rfl (by decide) _ _ _ rfl (S2.out.own (i := 1) rfl) _ 1 1 [.int .i64 (-v)] rfl (Src.one kB) (by simp [Value.oneCell']) ?c3 ?c4 ?_)
        case c3 => unfold maxLen; omega
        case c4 => omega
        intro vY wY hownY hgY hatY
        have S4 := (S2.out.own_push (i := 1) rfl (bb _) hownY hgY (by simpa using hatY)).tail
        obtain ⟨aY, cY, rfl⟩ := own_slice hownY
        have HS3 : Hid (Sp w wY [Own 3 1 (.slice aY (k + 1) cY) (k + 1) ((totB (k + 1) b).map (.int .i64))]) := by
          unfold Hid; rw [hsn.out, List.map_append, htI.out]; exact S4
        clear S2 S4 kB hownY hgY hatY hsn
        go_wp2_with fail
        go_roundw
        case rel => exact ⟨k + 1, v + 1, aY, cY, by omega, rfl, by have := hve.out; unfold Hid; omega, rfl, HS3⟩
        case measure => have := hve.out; simp [intOf]; omega
      · simp only [if_true] at hand htI
        have S2 := HS.out.alloc_box #[.int .i64 v] 3
        have kB := S2.cell (i := 0) rfl (o := 0) rfl
        replace S2 := Lib.hid S2
        clear HS
        go_wp2_with (at_builtin; refine wpList_append_src rfl _ _ rfl Try.underlying30 hi hz0 hz1 hz2 rfl (by decide) _ _ _ rfl (S2.out.own (i := 1) rfl) _ 1 1 [.int .i64 v] rfl (Src.one kB) (by simp [Value.oneCell']) ?c3 ?c4 ?_)
        case c3 => unfold maxLen; omega
        case c4 => omega
        intro vY wY hownY hgY hatY
        have S4 := (S2.out.own_push (i := 1) rfl (bb _) hownY hgY (by simpa using hatY)).tail
        obtain ⟨aY, cY, rfl⟩ := own_slice hownY
        have HS3 : Hid (Sp w wY [Own 3 1 (.slice aY (k + 1) cY) (k + 1) ((totB (k + 1) b).map (.int .i64))]) := by
          unfold Hid; rw [hsn.out, List.map_append, htI.out]; exact S4
        clear S2 S4 kB hownY hgY hatY hsn
        go_wp2_with fail
        go_roundw
        case rel => exact ⟨k + 1, v + 1, aY, cY, by omega, rfl, by have := hve.out; unfold Hid; omega, rfl, HS3⟩
        case measure => have := hve.out; simp [intOf]; omega
    · obtain rfl : k = n := by omega
      have hgt : ¬ v ≤ (k : Int) := by omega
      clear hve'
      go_wp2_with fail
      go_ret
      exact ⟨B, cc, rfl, HS.out⟩

/-- What l3Value tells. -/
def valP (c a : List Int) (e : Ending) : Prop := ∃ z : Int, e = .returned (.int .i64 z) ∧ (z == 1) = c.any (hasI a)
set_option maxRecDepth 100000 in
set_option maxHeartbeats 4000000 in
theorem l3Value_any (c a : List Int) (hc : ∀ l ∈ c, LitS l) (hl : c.length ≤ 1000000) (A B : Option Addr) (k k' : Nat) (F : List Nat) (w : World) (hx : IntsAt w A c) (hy : Ty.int.row false w (.slice B a.length k') a F) :
    Calls Try.prog 250 #[.slice A c.length k, .slice B a.length k'] w fun e w' => valP c a e ∧ Below w.heap.size w w' := by
  have hN := Lib.hid hx
  have hM := Lib.hid hy
  have hcc := Lib.hid hc
  have HB0 := Lib.hid (bb w)
  clear hx hy hc
  go_enter Try.func250, Try.ntmps250
  go_wp2_with fail
  go_loopw [5, 6] (fun vz vi wr => ∃ (j : Nat) (z : Int), j ≤ c.length ∧ vi = .int .i64 j ∧ vz = .int .i64 z ∧ (z = -1 ∨ z = 0) ∧ Hid ((c.take j).any (hasI a) = false) ∧ Hid (Below w.heap.size w wr)) (fun _ vi _ => c.length - (intOf vi).toNat)
  case atStart => exact ⟨0, -1, Nat.zero_le _, rfl, rfl, .inl rfl, rfl, HB0⟩
  case round =>
    obtain ⟨j, z, hj, rfl, rfl, hz, HD, HB⟩ := hrel
    clear HB0
    by_cases hlt : j < c.length
    · obtain ⟨b, off, rfl, m0⟩ := (hN.out.grow HB.out).at_ j hlt
      have hlit := hcc.out _ (List.getElem_mem hlt)
      have hw1 : IntKind.i64.wrap (-c[j]) = -c[j] := IntWalk.i64_in _ (by unfold LitS at hlit; omega)
      have hcall := Lib.hid (l2Has_any _ a F c[j] wr (Ty.row_below hM.out HB.out (Ty.row_lt hM.out)))
      have hcall2 := Lib.hid (l2Has_any _ a F (-c[j]) wr (Ty.row_below hM.out HB.out (Ty.row_lt hM.out)))
      have hno := Lib.hid (any_next (p := hasI a) hlt HD.out)
      have hyes : Hid (hasI a c[j] = true → c.any (hasI a) = true) := fun h => List.any_eq_true.2 ⟨_, List.getElem_mem hlt, h⟩
      generalize c[j] = l at *
      clear hlit
      cases h1 : hasI a l
      · have hD := Lib.hid (hno.out h1)
        rw [h1] at hcall
        clear hyes hno HD
        cases h2 : hasI a (-l)
        all_goals
          rw [h2] at hcall2
          go_wp2_with fail
          refine hcall.out.mono ?_
          rintro e w1 ⟨rfl, rfl⟩
          go_wp2_with fail
          refine hcall2.out.mono ?_
          rintro e w1 ⟨rfl, rfl⟩
          go_wp2_with fail
          go_roundw
          case rel => exact ⟨j + 1, _, by omega, by go_num, rfl, by first | exact hz | exact .inr rfl, hD, HB⟩
          case measure => simp [intOf]; omega
      · have hR := Lib.hid (hyes h1)
        rw [h1] at hcall
        clear hyes hno HD
        go_wp2_with fail
        refine hcall.out.mono ?_
        rintro e w1 ⟨rfl, rfl⟩
        go_wp2_with fail
        go_ret
        exact ⟨⟨1, rfl, by rw [hR.out]; rfl⟩, HB.out⟩
    · obtain rfl : j = c.length := by omega
      have hR : Hid (c.any (hasI a) = false) := by have := HD.out; rwa [List.take_length] at this
      go_wp2_with fail
      go_ret
      exact ⟨⟨z, rfl, by rw [hR.out]; rcases hz with rfl | rfl <;> rfl⟩, HB.out⟩
end Go.Proofs.Ytmikconjhmhekaa

/- Contract: total assignments in the program. -/
namespace Go.Proofs.Ytmikconjhmhekaa
open Go.RowKit

set_option maxRecDepth 100000 in
set_option maxHeartbeats 4000000 in
theorem total_any (n b : Nat) (hn : n ≤ 12) (hb : b < 2 ^ 62) (w : World) :
    Calls Try.prog 91 #[.int .i64 n, .int .i64 b] w fun e w' => ∃ B k, e = .returned (.slice B n k) ∧ Sp w w' [Own 3 1 (.slice B n k) n ((totB n b).map (.int .i64))] := by
  have S0 := Lib.hid ((Sp.start w).own_nil 3 1)
  obtain ⟨i0, hi, hz0, hz1, hz2⟩ := info_parts infoInt
  go_enter Try.func91, Try.ntmps91
  go_wp2_with fail
  go_loopw [5, 6] (fun vo vi wr => ∃ (k : Nat) (v : Int) (B : Option Addr) (cc : Nat), k ≤ n ∧ vi = .int .i64 v ∧ Hid (v = (k : Int) + 1) ∧ vo = .slice B k cc ∧ Hid (Sp w wr [Own 3 1 (.slice B k cc) k ((totB k b).map (.int .i64))])) (fun _ vi _ => n + 1 - (intOf vi).toNat)
  case atStart => exact ⟨0, 1, _, _, Nat.zero_le _, rfl, rfl, rfl, S0⟩
  case round =>
    obtain ⟨k, v, B, cc, hk, rfl, hve, rfl, HS⟩ := hrel
    clear S0
    have hve' := hve.out
    by_cases hlt : k < n
    · have hle : v ≤ (n : Int) := by omega
      have hv0 : 1 ≤ v := by omega
      have hand := bit_at b hb k
      rw [Nat.min_eq_left (by omega)] at hand
      have hw1 : IntKind.i64.wrap (v - 1) = (k : Int) := by rw [IntWalk.i64_in _ (by omega)]; omega
      have hw2 : IntKind.i64.wrap (k : Int) = (k : Int) := by rw [IntWalk.i64_in _ (by omega)]
      have hw3 : IntKind.i64.wrap (-v) = -v := by rw [IntWalk.i64_in _ (by omega)]
      have hw4 : IntKind.i64.wrap (v + 1) = v + 1 := by rw [IntWalk.i64_in _ (by omega)]
      have hsn := Lib.hid (tot_snoc k b)
      have htI : Hid (totI b k = if b.testBit k then v else -v) := by unfold Hid totI; rw [hve']
      have hk12 : k ≤ 12 := by omega
      clear hve'
      generalize b.testBit k = q at *
      cases q
      · simp only [Bool.false_eq_true, if_false] at hand htI
        have S2 := HS.out.alloc_box #[.int .i64 (-v)] 3
        have kB := S2.cell (i := 0) rfl (o := 0) rfl
        replace S2 := Lib.hid S2
        clear HS
        go_wp2_with (at_builtin; refine wpList_append_src rfl _ _ rfl Try.underlying30 hi hz0 hz1 hz2 rfl (by decide) _ _ _ rfl (S2.out.own (i := 1) rfl) _ 1 1 [.int .i64 (-v)] rfl (Src.one kB) (by simp [Value.oneCell']) ?c3 ?c4 ?_)
        case c3 => unfold maxLen; omega
        case c4 => omega
        intro vY wY hownY hgY hatY
        have S4 := (S2.out.own_push (i := 1) rfl (bb _) hownY hgY (by simpa using hatY)).tail
        obtain ⟨aY, cY, rfl⟩ := own_slice hownY
        have HS3 : Hid (Sp w wY [Own 3 1 (.slice aY (k + 1) cY) (k + 1) ((totB (k + 1) b).map (.int .i64))]) := by
          unfold Hid; rw [hsn.out, List.map_append, htI.out]; exact S4
        clear S2 S4 kB hownY hgY hatY hsn
        go_wp2_with fail
        go_roundw
        case rel => exact ⟨k + 1, v + 1, aY, cY, by omega, rfl, by have := hve.out; unfold Hid; omega, rfl, HS3⟩
        case measure => have := hve.out; simp [intOf]; omega
      · simp only [if_true] at hand htI
        have S2 := HS.out.alloc_box #[.int .i64 v] 3
        have kB := S2.cell (i := 0) rfl (o := 0) rfl
        replace S2 := Lib.hid S2
        clear HS
        go_wp2_with (at_builtin; refine wpList_append_src rfl _ _ rfl Try.underlying30 hi hz0 hz1 hz2 rfl (by decide) _ _ _ rfl (S2.out.own (i := 1) rfl) _ 1 1 [.int .i64 v] rfl (Src.one kB) (by simp [Value.oneCell']) ?c3 ?c4 ?_)
        case c3 => unfold maxLen; omega
        case c4 => omega
        intro vY wY hownY hgY hatY
        have S4 := (S2.out.own_push (i := 1) rfl (bb _) hownY hgY (by simpa using hatY)).tail
        obtain ⟨aY, cY, rfl⟩ := own_slice hownY
        have HS3 : Hid (Sp w wY [Own 3 1 (.slice aY (k + 1) cY) (k + 1) ((totB (k + 1) b).map (.int .i64))]) := by
          unfold Hid; rw [hsn.out, List.map_append, htI.out]; exact S4
        clear S2 S4 kB hownY hgY hatY hsn
        go_wp2_with fail
        go_roundw
        case rel => exact ⟨k + 1, v + 1, aY, cY, by omega, rfl, by have := hve.out; unfold Hid; omega, rfl, HS3⟩
        case measure => have := hve.out; simp [intOf]; omega
    · obtain rfl : k = n := by omega
      have hgt : ¬ v ≤ (k : Int) := by omega
      clear hve'
      go_wp2_with fail
      go_ret
      exact ⟨B, cc, rfl, HS.out⟩
end Go.Proofs.Ytmikconjhmhekaa

/- Contract: the backbone of a Cnf, in the program. -/
namespace Go.Proofs.Ytmikconjhmhekaa
open Go.RowKit

/-- The literals of a model that are true for all models up to k. -/
def keepK (n : Nat) (xss : List (List Int)) (f k : Nat) : List Int := (totB n f).filter fun l => (mods (modT xss) k).all fun b => litT b l
theorem mods_no {p : Nat → Bool} {k : Nat} (h : p k = false) : mods p (k + 1) = mods p k := by simp [mods, List.range_succ, List.filter_append, h]
theorem mods_yes {p : Nat → Bool} {k : Nat} (h : p k = true) : mods p (k + 1) = mods p k ++ [k] := by simp [mods, List.range_succ, List.filter_append, h]
theorem keep_no {n f k : Nat} {xss : List (List Int)} (h : modT xss k = false) : keepK n xss f (k + 1) = keepK n xss f k := by unfold keepK; rw [mods_no h]
theorem keep_yes {n f k : Nat} {xss : List (List Int)} (h : modT xss k = true) : keepK n xss f (k + 1) = (keepK n xss f k).filter fun l => !(!litT k l) := by
  unfold keepK
  rw [mods_yes h, List.filter_filter]
  congr 1
  funext l
  rw [List.all_append, Bool.and_comm]
  simp
theorem keep_zero (n f : Nat) (xss : List (List Int)) : keepK n xss f 0 = totB n f := by
  unfold keepK
  rw [List.filter_eq_self]
  intro l _
  rfl
theorem keep_len (n : Nat) (xss : List (List Int)) (f k : Nat) : (keepK n xss f k).length ≤ n := Nat.le_trans (List.length_filter_le _ _) (by rw [tot_len]; exact Nat.le_refl _)
theorem tot_lit {n f : Nat} (hn : n ≤ 12) : ∀ l ∈ totB n f, LitS l := by
  intro l hl
  obtain ⟨i, hi, rfl⟩ := List.mem_map.1 hl
  have := List.mem_range.1 hi
  unfold totI LitS
  split <;> omega
theorem keep_lit {n f k : Nat} (hn : n ≤ 12) {xss : List (List Int)} : ∀ l ∈ keepK n xss f k, LitS l := fun l hl => tot_lit hn l (List.mem_filter.1 hl).1
theorem keep_bone_k (n : Nat) (xss : List (List Int)) (f : Nat) (hf : f ∈ mods (modT xss) (2 ^ n)) : ∀ k, (totB k f).filter (fun l => (mods (modT xss) (2 ^ n)).all fun b => litT b l) = boneTo n xss k
  | 0 => rfl
  | k + 1 => by
    rw [tot_snoc, List.filter_append, keep_bone_k n xss f hf k, bone_next]
    congr 1
    have himp : ∀ x, impB n xss [x] = (mods (modT xss) (2 ^ n)).all fun b => litT b x := fun x => by
      rw [imp_mods]
      congr 1
      funext b
      exact cl_one x b
    rw [himp, himp]
    unfold totI
    have hp : ∀ (q : Bool), f.testBit k = q → ((mods (modT xss) (2 ^ n)).all fun b => litT b ((k : Int) + 1)) = true → q = true := fun q hq h => by
      have := List.all_eq_true.1 h f hf
      rw [lit_pos, hq] at this
      exact this
    have hm : ∀ (q : Bool), f.testBit k = q → ((mods (modT xss) (2 ^ n)).all fun b => litT b (-((k : Int) + 1))) = true → q = false := fun q hq h => by
      have := List.all_eq_true.1 h f hf
      rw [lit_neg, hq] at this
      simpa using this
    cases hq : f.testBit k
    · have h1 : ((mods (modT xss) (2 ^ n)).all fun b => litT b ((k : Int) + 1)) = false := by
        cases h : ((mods (modT xss) (2 ^ n)).all fun b => litT b ((k : Int) + 1))
        · rfl
        · exact absurd (hp _ hq h) (by simp)
      rw [h1]
      cases h2 : ((mods (modT xss) (2 ^ n)).all fun b => litT b (-((k : Int) + 1)))
      · simp [List.filter, h2]
      · simp [List.filter, h2]
    · have h1 : ((mods (modT xss) (2 ^ n)).all fun b => litT b (-((k : Int) + 1))) = false := by
        cases h : ((mods (modT xss) (2 ^ n)).all fun b => litT b (-((k : Int) + 1)))
        · rfl
        · exact absurd (hm _ hq h) (by simp)
      rw [h1]
      cases h2 : ((mods (modT xss) (2 ^ n)).all fun b => litT b ((k : Int) + 1))
      · simp [List.filter, h2]
      · simp [List.filter, h2]
theorem keep_bone {n : Nat} {xss : List (List Int)} {f : Nat} (h1 : f < 2 ^ n) (h2 : modT xss f = true) : keepK n xss f (2 ^ n) = boneTo n xss n :=
  keep_bone_k n xss f (List.mem_filter.2 ⟨List.mem_range.2 h1, h2⟩) n
theorem idx_model {p : Nat → Bool} {N : Nat} (h : (List.range N).any p = true) : ∃ f : Nat, idxP p (List.range N) = (f : Int) ∧ f < N ∧ p f = true := by
  have hlt : (List.range N).findIdx p < (List.range N).length := List.findIdx_lt_length_of_exists (by simpa using List.any_eq_true.1 h)
  refine ⟨(List.range N).findIdx p, by unfold idxP; rw [if_pos h], by simpa using hlt, ?_⟩
  have := List.findIdx_getElem (w := hlt)
  simpa using this

set_option maxRecDepth 100000 in
set_option maxHeartbeats 4000000 in
theorem boneHolds_any (l : Int) (hl : LitS l) (b g : Nat) (hb : b < 2 ^ 62) (w : World) (k0 : w.cell? ⟨g, 0, none⟩ = some (.int .i64 b)) :
    Calls Try.prog 94 #[.int .i64 l, .pointer (some ⟨g, 0, none⟩)] w fun e w' => e = .returned (.bool (!litT b l)) ∧ Below w.heap.size w w' := by
  have S0 := (Sp.start w).alloc_box #[.int .i64 l] 3
  have hI := ints_lone (S0.cell (i := 0) rfl (o := 0) rfl) hl.i64
  have hcall := Lib.hid (holds_any [l] (by simpa using hl) (by simp) (some ⟨w.heap.size, 0, none⟩) 1 b hb _ hI)
  rw [show clT [l] b = litT b l by simp [clT]] at hcall
  have hB := Lib.hid S0.below
  generalize litT b l = q at *
  have hgl := World.block_lt_of_cell? _ _ k0
  clear S0 hI hl
  go_enter Try.func94, Try.ntmps94
  go_wp2_with fail
  refine hcall.out.mono ?_
  rintro e w1 ⟨rfl, hb1⟩
  have hB2 := Lib.hid (btr hB.out hb1)
  clear hcall hb1 hB k0
  go_wp2_with fail
  go_ret
  exact ⟨rfl, hB2.out⟩

set_option maxRecDepth 100000 in
set_option maxHeartbeats 4000000 in
theorem boneStep_any (w V : World) (ts : List Int) (B : Option Addr) (cc o fb k m : Nat) (fcs : Array Value) (hk : k < 4096) (hl : ts.length ≤ 12) (hlit : ∀ l ∈ ts, LitS l)
    (S : Sp w V [Own 3 1 (.slice B ts.length cc) ts.length (ts.map (.int .i64)), Box o 30 #[.slice B ts.length cc], Box fb 26 fcs])
    (hm1 : m < V.heap.size) (hmo : m ≠ o) (hmB : ∀ g, (Value.slice B ts.length cc).ownBlock = some g → g ≠ m) :
    Calls Try.prog 92 #[.int .i64 k, .pointer (some ⟨o, 0, none⟩)] V fun e w' => ∃ (F : List Nat), e = .returned (.bool true) ∧ m ∉ F ∧ Chg F V w' ∧ (∀ g, (Value.slice B (ts.filter fun l => !(!litT k l)).length cc).ownBlock = some g → g ≠ m) ∧
      Sp w w' [Own 3 1 (.slice B (ts.filter fun l => !(!litT k l)).length cc) (ts.filter fun l => !(!litT k l)).length ((ts.filter fun l => !(!litT k l)).map (.int .i64)), Box o 30 #[.slice B (ts.filter fun l => !(!litT k l)).length cc], Box fb 26 fcs] := by
  have S4 := (S.alloc_box #[.int .i64 (k : Int)] 3).bring (i := 1) rfl
  have eg : Enter1 94 := enters_of Try.func94 (by kernel_rfl) rfl
  have hdel := Lib.hid (deleteFuncI_any (cb := #[.pointer (some ⟨V.heap.size, 0, none⟩)]) (p := fun l => !litT k l) (R := LitS) eg ts B cc w _ _ S4 (fun l h => (hlit l h).i64) (by omega) hlit
    (fun x ys W hx hS => boneHolds_any x hx k V.heap.size (Nat.lt_trans hk (by decide)) W (hS.cell (i := 1) rfl (o := 0) rfl)))
  have l0 := S.cell (i := 1) rfl (o := 0) rfl
  have l00 := World.block_lt_of_cell? _ _ l0
  have hmB2 := Lib.hid hmB
  clear S4 eg S hlit
  generalize (ts.filter fun l => !(!litT k l)) = ss at *
  go_enter Try.func92, Try.ntmps92
  go_wp2_with fail
  refine hdel.out.mono ?_
  rintro e w1 ⟨rfl, S5, hch⟩
  have l1 := S5.cell (i := 2) rfl (o := 0) rfl
  have f1 := S5.frozen (i := 2) rfl 0
  have S6 := Lib.hid (((S5.store (i := 2) rfl 0 (.slice B ss.length cc)).bring (i := 1) rfl).tail)
  have hch2 : Hid (Chg ((Value.slice B ts.length cc).ownBlock.toList ++ [o]) V (w1.setCell ⟨o, 0, none⟩ (.slice B ss.length cc))) :=
    ((((Chg.refl _ V).alloc _).trans (hch.mono fun b hb => List.mem_append.2 (.inl hb))).set (p := ⟨o, 0, none⟩) (by simp) _)
  have hmF : Hid (m ∉ (Value.slice B ts.length cc).ownBlock.toList ++ [o]) := fun h => by
    rcases List.mem_append.1 h with h | h
    · exact hmB2.out m (by simpa using h) rfl
    · exact hmo (by simpa using h)
  have hmB3 : Hid (∀ g, (Value.slice B ss.length cc).ownBlock = some g → g ≠ m) := fun g hg => hmB2.out g (by
    cases B with
    | none => simp [Value.ownBlock] at hg
    | some a => simpa [Value.ownBlock] using hg)
  clear hdel S5 hch hmB hmB2
  go_wp2_with fail
  go_ret
  first
    | exact ⟨_, rfl, hmF.out, hch2.out, hmB3.out, S6.out⟩
    | exact ⟨rfl, _, hmF.out, hch2.out, hmB3.out, S6.out⟩

/-- What is left of the first model's literals before k. -/
def BoneP (w : World) (n : Nat) (xss : List (List Int)) (f o m fb : Nat) (fcs : Array Value) (k : Nat) (V : World) : Prop :=
  ∃ (ts : List Int) (B : Option Addr) (cc : Nat), ts = keepK n xss f k ∧ (∀ g, (Value.slice B ts.length cc).ownBlock = some g → g ≠ m) ∧
    Sp w V [Own 3 1 (.slice B ts.length cc) ts.length (ts.map (.int .i64)), Box o 30 #[.slice B ts.length cc], Box fb 26 fcs]

set_option maxRecDepth 100000 in
set_option maxHeartbeats 4000000 in
theorem implBackbone_any (vars : Int) (v : Value) (xss : List (List Int)) (F : List Nat) (w : World) (hx : (Ty.slice Ty.int).row false w v xss F) :
    Calls Try.prog 18 #[.agg #[.int .i64 vars, v]] w (IAns w (goodB vars xss && (List.range (2 ^ vars.toNat)).any (modT xss)) (if goodB vars xss && (List.range (2 ^ vars.toNat)).any (modT xss) then boneTo vars.toNat xss vars.toNat else [])) := by
  obtain ⟨A, cap, rfl, hI⟩ := cls_row hx
  have S0 := (Sp.start w).alloc_box #[.int .i64 vars, .slice A xss.length cap] 26
  have hcall := Lib.hid (firstModel_any vars _ xss F _ (Ty.row_below hx S0.below (Ty.row_lt hx)))
  replace S0 := Lib.hid S0
  have c0 := S0.out.cell (i := 0) rfl (o := 0) rfl
  have c1 := S0.out.cell (i := 0) rfl (o := 1) rfl
  clear hx
  cases h1 : goodB vars xss && (List.range (2 ^ vars.toNat)).any (modT xss)
  · rw [h1] at hcall
    go_enter Try.func18, Try.ntmps18
    go_wp2_with fail
    refine hcall.out.mono ?_
    rintro e w1 ⟨rfl, hb1⟩
    have hB := Lib.hid (S0.out.grow hb1).below
    clear hcall S0 c0 c1 hb1
    go_wp2_with fail
    go_ret2
    exact ⟨none, 0, rfl, ⟨fun j hj => by simp at hj, fun c hc => by simp at hc⟩, hB.out⟩
  obtain ⟨hgd, hany⟩ := Bool.and_eq_true_iff.1 h1
  have hg := good_cnf hgd
  obtain ⟨n, rfl⟩ := Int.eq_ofNat_of_zero_le hg.1.1
  rw [show (n : Int).toNat = n by omega] at hcall hany h1 ⊢
  have hn : n ≤ 12 := by omega
  have hp := (pow12 hn).2
  obtain ⟨f, hf, hfN, hfm⟩ := idx_model hany
  have hfin := Lib.hid (keep_bone hfN hfm)
  rw [h1, if_pos rfl, hf] at hcall
  have hf4 : f < 4096 := Nat.lt_of_lt_of_le hfN hp
  have htot := Lib.hid (fun W => total_any n f hn (Nat.lt_trans hf4 (by decide)) W)
  have eg : Enter1 92 := enters_of Try.func92 (by kernel_rfl) rfl
  have hmod := Lib.hid (fun W (o : Nat) (B : Option Addr) (cc : Nat) (ts : List Int) (hts : ts = totB n f) (S : Sp w W [Own 3 1 (.slice B ts.length cc) ts.length (ts.map (.int .i64)), Box o 30 #[.slice B ts.length cc], Box w.heap.size 26 #[.int .i64 n, .slice A xss.length cap]]) =>
    models2_any (cb := #[.pointer (some ⟨o, 0, none⟩)]) eg n hn xss hg.2.2.2 (by omega) A cap W
    (BoneP w n xss f o W.heap.size w.heap.size #[.int .i64 n, .slice A xss.length cap])
    ⟨ts, B, cc, by rw [keep_zero]; exact hts, fun g hg => Nat.ne_of_lt (owns_lt (S.own (i := 0) rfl) hg), S⟩
    (fun k V V' ⟨ts, B, cc, a1, a4, h⟩ hb => ⟨ts, B, cc, a1, a4, h.grow hb⟩) (fun k V ⟨_, _, _, _, _, h⟩ => hI.grow h.below)
    (fun k V hm ⟨ts, B, cc, a1, a4, h⟩ => ⟨ts, B, cc, by rw [keep_no hm]; exact a1, a4, h⟩)
    (fun k V hV hk hm ⟨ts, B, cc, a1, a4, h⟩ => by
      have hol := (S.box (i := 1) rfl).2.1
      refine (boneStep_any w V ts B cc o w.heap.size k W.heap.size _ (Nat.lt_of_lt_of_le hk hp) (by rw [a1]; exact Nat.le_trans (keep_len _ _ _ _) hn) (by rw [a1]; exact keep_lit hn) h hV (by omega) a4).mono ?_
      rintro e w' ⟨G, rfl, hmG, hch, hnb, hS⟩
      exact ⟨true, G, rfl, hmG, hch, _, B, cc, by rw [keep_yes hm, a1], hnb, hS⟩))
  have hbo := Lib.hid (bone_ok n xss n (by omega))
  have htl := Lib.hid (tot_len n f)
  rw [if_pos rfl]
  clear eg hI hg h1 hp hgd hany hfm
  generalize 2 ^ n = N at *
  go_enter Try.func18, Try.ntmps18
  go_wp2_with fail
  refine hcall.out.mono ?_
  rintro e w1 ⟨rfl, hb1⟩
  have S1 := Lib.hid (S0.out.grow hb1)
  clear hcall S0 c0 c1 hb1
  have c0 := S1.out.cell (i := 0) rfl (o := 0) rfl
  have c1 := S1.out.cell (i := 0) rfl (o := 1) rfl
  go_wp2_with fail
  refine (htot.out _).mono ?_
  rintro e w2 ⟨B, cc, rfl, T2⟩
  have S2 := S1.out.seq T2
  have S3 := (S2.alloc_box #[.slice B n cc] 30).bring (i := 1) rfl
  have S4 : Hid (Sp w (w2.alloc (.cells #[.slice B n cc] 30)) [Own 3 1 (.slice B (totB n f).length cc) (totB n f).length ((totB n f).map (.int .i64)), Box w2.heap.size 30 #[.slice B (totB n f).length cc], Box w.heap.size 26 #[.int .i64 n, .slice A xss.length cap]]) := by
    unfold Hid; rw [htl.out]; exact S3
  have d0 := S3.cell (i := 2) rfl (o := 0) rfl
  have d1 := S3.cell (i := 2) rfl (o := 1) rfl
  have d2 := S3.cell (i := 1) rfl (o := 0) rfl
  have hm2 := Lib.hid (hmod.out _ w2.heap.size B cc _ rfl S4.out)
  clear hmod htot S1 S2 S3 S4 T2 c0 c1
  go_wp2_with fail
  refine hm2.out.mono ?_
  rintro e w3 ⟨rfl, ts, E, ec, hts, -, S5⟩
  have l0 := S5.cell (i := 1) rfl (o := 0) rfl
  have hB := Lib.hid S5.below
  have hokt : ∀ x ∈ ts, I64 x := by rw [hts, hfin.out]; exact hbo.out
  obtain ⟨G, hr, -, -⟩ := own_row (S5.own (i := 0) rfl) hokt
  obtain ⟨B', c', e', hT⟩ := ints_row (Ty.row_down hr)
  cases e'
  replace hT := Lib.hid hT
  rw [hfin.out] at hts
  replace hts := Lib.hid hts
  clear S5 hr hokt hm2 d0 d1 d2
  go_wp2_with fail
  go_ret2
  exact ⟨E, ec, by rw [← hts.out]; rfl, by rw [← hts.out]; exact hT.out, hB.out⟩
end Go.Proofs.Ytmikconjhmhekaa

/- Contracts: inequalities over bits, in the program. -/
namespace Go.Proofs.Ytmikconjhmhekaa
open Go.RowKit

/- left out: the seat has no impl.IsInequality$1 -/

/- left out: the seat has no impl.IsInequality -/

/- left out: the seat has no impl.planeHolds -/
end Go.Proofs.Ytmikconjhmhekaa

/- Contracts: total assignments and their bits, on both sides. -/
namespace Go.Proofs.Ytmikconjhmhekaa
open Go.RowKit

/-- A row of the call's own, and whether it is told. -/
def OwnAns (w : World) (ok : Bool) (zs : List Int) (e : Ending) (w' : World) : Prop := ∃ D dc, e = .returned (.tuple #[.slice D zs.length dc, .bool ok]) ∧ Sp w w' [Own 3 1 (.slice D zs.length dc) zs.length (zs.map (.int .i64))]
def totOk (vars bits : Int) : Bool := inB vars 0 12 && inB bits 0 (((2 ^ vars.toNat : Nat) : Int) - 1)
def totL (vars bits : Int) : List Int := if totOk vars bits then totB vars.toNat bits.toNat else []
theorem totOk_parts {vars bits : Int} (h : totOk vars bits = true) : 0 ≤ vars ∧ vars ≤ 12 ∧ 0 ≤ bits ∧ bits.toNat < 2 ^ vars.toNat := by
  unfold totOk at h
  rw [Bool.and_eq_true, inB_true, inB_true] at h
  have h1 : 1 ≤ 2 ^ vars.toNat := Nat.one_le_two_pow
  omega

set_option maxRecDepth 100000 in
set_option maxHeartbeats 2000000 in
theorem implTotalOf_any (vars bits : Int) (w : World) :
    Calls Try.prog 68 #[.int .i64 vars, .int .i64 bits] w (OwnAns w (totOk vars bits) (totL vars bits)) := by
  unfold totL
  cases hv : inB vars 0 12
  · rw [show totOk vars bits = false by unfold totOk; rw [hv]; rfl]
    simp only [Bool.false_eq_true, if_false]
    have hc := Lib.hid (fun W => (hv ▸ varsOk_any vars W : Calls Try.prog 167 #[.int .i64 vars] W fun e w' => e = .returned (.bool false) ∧ W = w'))
    clear hv
    go_enter Try.func68, Try.ntmps68
    go_wp2_with fail
    refine (hc.out _).mono ?_
    rintro e w1 ⟨rfl, rfl⟩
    go_wp2_with fail
    go_ret2
    exact ⟨none, 0, rfl, (Sp.start _).own_nil _ _⟩
  · obtain ⟨hv0, hv1⟩ := inB_true.1 hv
    have hc := Lib.hid (fun W => (hv ▸ varsOk_any vars W : Calls Try.prog 167 #[.int .i64 vars] W fun e w' => e = .returned (.bool true) ∧ W = w'))
    obtain ⟨n, rfl⟩ := Int.eq_ofNat_of_zero_le hv0
    have e0 : ((n : Int)).toNat = n := by omega
    rw [e0]
    have hn12 : n ≤ 12 := by omega
    obtain ⟨hsh, hp⟩ := pow12 (v := n) hn12
    have hq : totOk n bits = inB bits 0 (((2 ^ n : Nat) : Int) - 1) := by unfold totOk; rw [hv, Bool.true_and, e0]
    obtain ⟨N, hN⟩ : ∃ N, 2 ^ n = N := ⟨_, rfl⟩
    rw [hN] at hsh hp hq
    clear hN
    have hw1 : IntKind.i64.wrap ((N : Int) - 1) = (N : Int) - 1 := IntWalk.i64_in _ (by omega)
    rw [hq]
    have hin := Lib.hid (fun W => withinB (x := bits) (lo := 0) (hi := (N : Int) - 1) rfl W)
    cases hq2 : inB bits 0 ((N : Int) - 1)
    · simp only [Bool.false_eq_true, if_false]
      rw [hq2] at hin
      clear hq hq2 hv hv0 hv1
      go_enter Try.func68, Try.ntmps68
      go_wp2_with fail
      refine (hc.out _).mono ?_
      rintro e w1 ⟨rfl, rfl⟩
      go_wp2_with fail
      try rw [hsh]
      refine (hin.out _).mono ?_
      rintro e w2 ⟨rfl, hb2⟩
      have hB := Lib.hid hb2
      go_wp2_with fail
      go_ret2
      exact ⟨none, 0, rfl, (Sp.of_below hB.out).own_nil _ _⟩
    · simp only [if_true]
      rw [hq2] at hin
      obtain ⟨hb0, hb1⟩ := inB_true.1 hq2
      obtain ⟨b, rfl⟩ := Int.eq_ofNat_of_zero_le hb0
      rw [show ((b : Int)).toNat = b by omega]
      have htot := Lib.hid (fun W => total_any n b (by omega) (by omega) W)
      have hlen : n = (totB n b).length := (tot_len n b).symm
      generalize totB n b = zs at *
      clear hq hq2 hv hv0 hv1 hb0 hb1
      go_enter Try.func68, Try.ntmps68
      replace hlen := Lib.hid hlen
      go_wp2_with fail
      refine (hc.out _).mono ?_
      rintro e w1 ⟨rfl, rfl⟩
      go_wp2_with fail
      try rw [hsh]
      refine (hin.out _).mono ?_
      rintro e w2 ⟨rfl, hb2⟩
      have S0 := Lib.hid (Sp.of_below hb2)
      clear hb2 hin
      go_wp2_with fail
      refine (htot.out _).mono ?_
      rintro e w3 ⟨B, cc, rfl, T⟩
      have S1 := Lib.hid (S0.out.seq T)
      clear S0 T htot
      go_wp2_with fail
      go_ret2
      refine ⟨B, cc, by first | (rw [← hlen.out]; rfl) | rw [← hlen.out], ?_⟩
      rw [← hlen.out]
      exact S1.out

set_option maxRecDepth 100000 in
set_option maxHeartbeats 2000000 in
theorem specTotalOf_any (vars bits : Int) (w : World) :
    Calls Try.prog 69 #[.int .i64 vars, .int .i64 bits] w (OwnAns w (totOk vars bits) (totL vars bits)) := by
  unfold totL
  cases hv : inB vars 0 12
  · rw [show totOk vars bits = false by unfold totOk; rw [hv]; rfl]
    simp only [Bool.false_eq_true, if_false]
    have hc := Lib.hid (fun W => (hv ▸ l2Vars_any vars W : Calls Try.prog 168 #[.int .i64 vars] W fun e w' => e = .returned (.bool false) ∧ W = w'))
    clear hv
    have S0 := Lib.hid ((Sp.start w).own_made 3 1)
    go_enter Try.func69, Try.ntmps69
    go_wp2_with fail
    refine (hc.out _).mono ?_
    rintro e w1 ⟨rfl, rfl⟩
    go_wp2_with fail
    go_ret2
    exact ⟨_, _, rfl, S0.out⟩
  · obtain ⟨hv0, hv1⟩ := inB_true.1 hv
    have hc := Lib.hid (fun W => (hv ▸ l2Vars_any vars W : Calls Try.prog 168 #[.int .i64 vars] W fun e w' => e = .returned (.bool true) ∧ W = w'))
    obtain ⟨n, rfl⟩ := Int.eq_ofNat_of_zero_le hv0
    have e0 : ((n : Int)).toNat = n := by omega
    rw [e0]
    have hn12 : n ≤ 12 := by omega
    obtain ⟨hsh, hp⟩ := pow12 (v := n) hn12
    have hq : totOk n bits = inB bits 0 (((2 ^ n : Nat) : Int) - 1) := by unfold totOk; rw [hv, Bool.true_and, e0]
    obtain ⟨N, hN⟩ : ∃ N, 2 ^ n = N := ⟨_, rfl⟩
    rw [hN] at hsh hp hq
    clear hN
    have hw1 : IntKind.i64.wrap ((N : Int) - 1) = (N : Int) - 1 := IntWalk.i64_in _ (by omega)
    rw [hq]
    have hin := Lib.hid (fun W => l1InB (x := bits) (lo := 0) (hi := (N : Int) - 1) rfl W)
    cases hq2 : inB bits 0 ((N : Int) - 1)
    · simp only [Bool.false_eq_true, if_false]
      rw [hq2] at hin
      clear hq hq2 hv hv0 hv1
      go_enter Try.func69, Try.ntmps69
      go_wp2_with fail
      refine (hc.out _).mono ?_
      rintro e w1 ⟨rfl, rfl⟩
      go_wp2_with fail
      try rw [hsh]
      refine (hin.out _).mono ?_
      rintro e w2 ⟨rfl, hb2⟩
      have S0 := Lib.hid ((Sp.of_below hb2).own_made 3 1)
      clear hb2
      go_wp2_with fail
      go_ret2
      exact ⟨_, _, rfl, S0.out⟩
    · simp only [if_true]
      rw [hq2] at hin
      obtain ⟨hb0, hb1⟩ := inB_true.1 hq2
      obtain ⟨b, rfl⟩ := Int.eq_ofNat_of_zero_le hb0
      rw [show ((b : Int)).toNat = b by omega]
      have htot := Lib.hid (fun W => l3Total_any n b (by omega) (by omega) W)
      have hlen : n = (totB n b).length := (tot_len n b).symm
      generalize totB n b = zs at *
      clear hq hq2 hv hv0 hv1 hb0 hb1
      replace hlen := Lib.hid hlen
      go_enter Try.func69, Try.ntmps69
      go_wp2_with fail
      refine (hc.out _).mono ?_
      rintro e w1 ⟨rfl, rfl⟩
      go_wp2_with fail
      try rw [hsh]
      refine (hin.out _).mono ?_
      rintro e w2 ⟨rfl, hb2⟩
      have S0 := Lib.hid (Sp.of_below hb2)
      clear hb2 hin
      go_wp2_with fail
      refine (htot.out _).mono ?_
      rintro e w3 ⟨B, cc, rfl, T⟩
      have S1 := Lib.hid (S0.out.seq T)
      clear S0 T htot
      go_wp2_with fail
      go_ret2
      refine ⟨B, cc, by first | (rw [← hlen.out]; rfl) | rw [← hlen.out], ?_⟩
      rw [← hlen.out]
      exact S1.out
end Go.Proofs.Ytmikconjhmhekaa

/- Contracts: literals compared and sorted, and the clause of literals, in the program. -/
namespace Go.Proofs.Ytmikconjhmhekaa
open Go.RowKit Go.Sort

def orL (x y : Int) : Int := if x = 0 then y else x
theorem cmpL_or (a b : Int) : orL (Lib.compareInt (absW a) (absW b)) (Lib.compareInt b a) = cmpL a b := by
  unfold orL cmpL Lib.compareInt
  by_cases h1 : absW a < absW b
  · simp [h1]
  · by_cases h2 : absW b < absW a
    · simp [h1, h2]
    · simp [h1, h2]
set_option maxHeartbeats 400000 in
theorem absW_any (l : Int) (w : World) : Calls Try.prog 190 #[.int .i64 l] w fun e w' => e = .returned (.int .i64 (absW l)) ∧ w = w' := by
  have hd : Hid (absW l = if l < wrap64 (-l) then wrap64 (-l) else l) := rfl
  go_enter Try.func190, Try.ntmps190
  by_cases h : l < wrap64 (-l)
  · go_wp2
    go_ret
    exact ⟨ret_int (by first | (rw [hd.out, if_pos h]; done) | (rw [hd.out, if_pos h]; exact Int.max_eq_right (Int.le_of_lt h))), rfl⟩
  · go_wp2
    go_ret
    exact ⟨ret_int (by first | (rw [hd.out, if_neg (Int.not_lt.mpr h)]; done) | (rw [hd.out, if_neg (by omega)]; exact Int.max_eq_left (by omega))), rfl⟩
set_option maxHeartbeats 1000000 in
theorem cmpOrL_any (b : Nat) (x y : Int) (w : World) (k0 : w.cell? ⟨b, 0, none⟩ = some (.int .i64 x)) (k1 : w.cell? ⟨b, 1, none⟩ = some (.int .i64 y)) :
    Calls Try.prog 259 #[.slice (some ⟨b, 0, none⟩) 2 2] w fun e w' => e = .returned (.int .i64 (orL x y)) ∧ w = w' := by
  by_cases hx : x = 0
  · have hR : Hid (orL x y = y) := by unfold Hid orL; rw [if_pos hx]
    subst hx
    by_cases hy : y = 0
    · subst hy
      go_enter Try.func259, Try.ntmps259
      go_wp2_with fail
      refine wp_loop_rounds 3 ?_
      rw [rounds_succ]
      go_wp2_with fail
      rw [rounds_succ]
      go_wp2_with fail
      rw [rounds_succ]
      go_wp2_with fail
      go_ret
      exact ⟨ret_int hR.out.symm, rfl⟩
    · have hy2 : (y != 0) = true := by simpa using hy
      go_enter Try.func259, Try.ntmps259
      go_wp2_with fail
      refine wp_loop_rounds 3 ?_
      rw [rounds_succ]
      go_wp2_with fail
      rw [rounds_succ]
      go_wp2_with fail
      go_ret
      exact ⟨ret_int hR.out.symm, rfl⟩
  · have hR : Hid (orL x y = x) := by unfold Hid orL; rw [if_neg hx]
    have hx2 : (x != 0) = true := by simpa using hx
    go_enter Try.func259, Try.ntmps259
    go_wp2_with fail
    refine wp_loop_rounds 3 ?_
    rw [rounds_succ]
    go_wp2_with fail
    go_ret
    exact ⟨ret_int hR.out.symm, rfl⟩

set_option maxHeartbeats 1000000 in
theorem compareLiterals_any (a b : Int) (W : World) :
    Calls Try.prog 237 #[.int .i64 a, .int .i64 b] W fun e w' => e = .returned (.int .i64 (cmpL a b)) ∧ ∃ q os, w' = grow (W.drewN q) os := by
  have h1 := Lib.hid (fun V => absW_any a V)
  have h2 := Lib.hid (fun V => absW_any b V)
  have h3 := Lib.hid (fun V => Try.cmp_Compare_int (absW a) (absW b) V)
  have h4 := Lib.hid (fun V => Try.cmp_Compare_int b a V)
  obtain ⟨r, hr⟩ : ∃ r, cmpL a b = r := ⟨_, rfl⟩
  have hor := cmpL_or a b
  rw [hr] at hor ⊢
  obtain ⟨x, hx⟩ : ∃ x, Lib.compareInt (absW a) (absW b) = x := ⟨_, rfl⟩
  obtain ⟨y, hy⟩ : ∃ y, Lib.compareInt b a = y := ⟨_, rfl⟩
  rw [hx] at h3 hor
  rw [hy] at h4 hor
  clear hx hy
  generalize absW a = aa at *
  generalize absW b = ab at *
  have hcO := Lib.hid (fun V k0 k1 => cmpOrL_any W.heap.size x y V k0 k1)
  rw [hor] at hcO
  clear hr hor
  go_enter Try.func237, Try.ntmps237
  go_wp2_with fail
  refine (h1.out _).mono ?_
  rintro e w1 ⟨rfl, rfl⟩
  go_wp2_with fail
  refine (h2.out _).mono ?_
  rintro e w1 ⟨rfl, rfl⟩
  go_wp2_with fail
  refine (h3.out _).mono ?_
  rintro e w1 ⟨rfl, hw⟩
  subst hw
  go_wp2_with fail
  refine (h4.out _).mono ?_
  rintro e w1 ⟨rfl, hw⟩
  subst hw
  go_wp2_with fail
  have k0 : (w1.alloc (.cells #[.int .i64 x, .int .i64 y] 3)).cell? ⟨w1.heap.size, 0, none⟩ = some (.int .i64 x) := cell_of_row _ _ _ _ _ _ (heap_alloc_new w1 _)
  have k1 : (w1.alloc (.cells #[.int .i64 x, .int .i64 y] 3)).cell? ⟨w1.heap.size, 1, none⟩ = some (.int .i64 y) := cell_of_row _ _ _ _ _ _ (heap_alloc_new w1 _)
  refine (hcO.out _ k0 k1).mono ?_
  rintro e w2 ⟨rfl, hw⟩
  clear k0 k1
  subst hw
  go_wp2_with fail
  go_ret
  exact ⟨rfl, 0, #[_], alloc_eq_grow _ _⟩

theorem ltL {x y : Int} : ltOf cmpL x y = true ↔ befL x y := by unfold ltOf; rw [decide_eq_true_eq, cmpL_neg]
theorem ltL_no {x y : Int} : ltOf cmpL x y = false ↔ ¬ befL x y := by rw [← ltL]; simp
theorem cmpL_swo : SWO (ltOf cmpL) where
  irrefl x := by rw [ltL_no]; unfold befL; omega
  trans x y z h1 h2 := by rw [ltL] at *; exact befL_trans h1 h2
  ntrans x y z h1 h2 := by rw [ltL_no] at *; unfold befL at *; omega

theorem sortFuncL_any (xs : List Int) (B : Option Addr) (cc : Nat) (w0 w : World) (ps : List Asn) (S : Sp w0 w (Own 3 1 (.slice B xs.length cc) xs.length (xs.map (.int .i64)) :: ps)) (hl : xs.length ≤ 1000000) :
    Calls Try.prog 236 #[.slice B xs.length cc, .func (.func 237) #[] #[]] w fun e w' => e = .returned (.tuple #[]) ∧ Sp w0 w' (Own 3 1 (.slice B xs.length cc) xs.length ((sortL xs).map (.int .i64)) :: ps) := by
  rcases Nat.eq_zero_or_pos xs.length with h0 | h0
  · obtain rfl : xs = [] := List.length_eq_zero_iff.1 h0
    refine (Try.slices_SortFunc_none B cc _ w).mono ?_
    rintro e w' ⟨rfl, rfl⟩
    refine ⟨rfl, ?_⟩
    unfold sortL
    rw [List.mergeSort_nil]
    exact S
  · have eg : ∀ args w, (callFunc 237 args).run Try.prog w = .ok (.enter 237 args) w := enters_of Try.func237 (by kernel_rfl) rfl
    obtain ⟨g, cap, cur, e1, h0', hg, hnc, hmx, hc, ht⟩ := own_block (S.own (i := 0) rfl) h0
    simp only [Value.slice.injEq] at e1
    obtain ⟨rfl, -, rfl⟩ := e1
    rw [Nat.mul_one] at ht
    have hH := holds_of_blockI hg ht
    have h := Any.slices_SortFunc_total Try.laysSlF6_f236 (Value.int .i64) (fun _ => rfl) cmpL cmpL_swo 237 #[] g 0 cc xs.toArray w eg (fun m os dk _ x y => compareLiterals_any x y _) hH (S.own (i := 0) rfl |> fun h => owns_lt h rfl) (by simp; omega) (fun x y h1 h2 => by
      rw [ltL_no] at h1 h2
      unfold befL at h1 h2
      omega)
    have hsz : xs.toArray.size = xs.length := by simp
    rw [hsz] at h
    refine Calls.mono h ?_
    rintro e w' ⟨rfl, n, os, rfl⟩
    refine ⟨rfl, ?_⟩
    have e2 : (xs.toArray.toList.mergeSort fun x y => !(ltOf cmpL) y x) = sortL xs := by
      unfold sortL ltOf; rfl
    rw [e2]
    exact S.own_push (i := 0) rfl (bb _) (ownsRow_sortedI (by unfold sortL; exact List.length_mergeSort _) (Nat.zero_le _) hg hnc hmx hc) (grownBy_sortedI _) (.inl rfl)
end Go.Proofs.Ytmikconjhmhekaa

/- Contracts: the clause of literals, literals that are set, in the program. -/
namespace Go.Proofs.Ytmikconjhmhekaa
open Go.RowKit

set_option maxRecDepth 100000 in
set_option maxHeartbeats 4000000 in
theorem clause_any (zs : List Int) (A : Option Addr) (cap : Nat) (w : World) (hx : IntsAt w A zs) (hz : ∀ x ∈ zs, LitS x) (hl : zs.length ≤ 2000) :
    Calls Try.prog 173 #[.slice A zs.length cap] w (OwnAns w (clauseR zs).isSome ((clauseR zs).getD [])) := by
  have hcl := Lib.hid (cloneA_any A cap zs w hx (by omega))
  have hsl : (sortL zs).length = zs.length := List.length_mergeSort _
  have hcpl := cptL_len zs
  have hlit := Lib.hid (fun x (h : x ∈ cptL zs) => hz x (cptL_mem.1 h))
  have hR : Hid (clauseR zs = if okTo (cptL zs) ((cptL zs).length - 1) then some (cptL zs) else none) := rfl
  have hcp : Hid (cptL zs = Lib.compact (sortL zs)) := rfl
  generalize clauseR zs = R at *
  replace hsl := Lib.hid hsl
  clear hx hz
  go_enter Try.func173, Try.ntmps173
  go_wp2_with fail
  refine hcl.out.mono ?_
  rintro e w1 ⟨D, dc, rfl, T⟩
  have hso := Lib.hid (sortFuncL_any zs D dc w w1 [] T (by omega))
  clear T hcl
  go_wp2_with fail
  refine hso.out.mono ?_
  rintro e w2 ⟨rfl, S2⟩
  rw [← hsl.out] at S2 ⊢
  have hsl2 : (sortL zs).length ≤ 1000000 := by rw [hsl.out]; omega
  have hco := Lib.hid (compactI_any _ D dc w _ [] S2 hsl2)
  rw [← hcp.out] at hco
  clear S2 hso hcp hsl2
  generalize sortL zs = sz at *
  replace hsl := Lib.hid hsl
  have hcl2 : (cptL zs).length ≤ 2000 := by omega
  clear hcpl
  generalize cptL zs = out at *
  go_wp2_with fail
  refine hco.out.mono ?_
  rintro e w3 ⟨rfl, S3⟩
  replace S3 := Lib.hid S3
  clear hco
  go_wp2_with fail
  go_loopw [5] (fun v5 wr => ∃ (k : Nat) (z : Int), k + 1 ≤ out.length + 1 ∧ 1 ≤ z ∧ z ≤ 3000 ∧ Hid ((k : Int) + 1 = z) ∧ v5 = .int .i64 z ∧ Hid (okTo out k = true) ∧ Hid (Sp w wr [Own 3 1 (.slice D out.length dc) out.length (out.map (.int .i64))])) (fun v5 _ => 4000 - (intOf v5).toNat)
  case atStart => exact ⟨0, 1, by omega, by decide, by decide, rfl, rfl, rfl, S3⟩
  case round =>
    clear S3
    obtain ⟨k, z, hk, hz1, hz2, hkz, rfl, hok, HS⟩ := hrel
    by_cases hlt : z < (out.length : Int)
    · have hk1 : k + 1 < out.length := by have := hkz.out; omega
      have hI := HS.out.ints (i := 0) rfl (fun x hx => (hlit.out x hx).i64)
      obtain ⟨b, off, rfl, m1⟩ := hI.at_ (k + 1) hk1
      obtain ⟨b', off', e1, m0⟩ := hI.at_ k (by omega)
      cases e1
      have k1 := cell_regrown m1
      have k0 := cell_regrown m0
      have hL1 := hlit.out _ (List.getElem_mem hk1)
      have hL0 := hlit.out _ (List.getElem_mem (show k < out.length by omega))
      have hneg : IntKind.i64.wrap (-out[k]) = -out[k] := IntWalk.i64_in _ (by unfold LitS at hL0; omega)
      have hzk : (z : Int) = ((k + 1 : Nat) : Int) := by have := hkz.out; omega
      have hyes := Lib.hid (fun (h : (out.getD (k + 1) 0 == -(out.getD k 0)) = true) => okTo_no (n := out.length - 1) (by omega) h)
      have hno := Lib.hid (fun (h : (out.getD (k + 1) 0 == -(out.getD k 0)) = false) => okTo_next hok.out h)
      have hg1 : out.getD (k + 1) 0 = out[k + 1] := by rw [List.getD_eq_getElem?_getD, List.getElem?_eq_getElem hk1]; rfl
      have hg0 : out.getD k 0 = out[k] := by rw [List.getD_eq_getElem?_getD, List.getElem?_eq_getElem (by omega)]; rfl
      rw [hg1, hg0] at hyes hno
      have hwz : IntKind.i64.wrap (((k + 1 : Nat) : Int) - 1) = (k : Int) := by rw [IntWalk.i64_in _ (by omega)]; omega
      have hwz2 : IntKind.i64.wrap (((k + 1 : Nat) : Int) + 1) = ((k + 1 + 1 : Nat) : Int) := by rw [IntWalk.i64_in _ (by omega)]; omega
      have hkz2 : Hid (((k + 1 : Nat) : Int) + 1 = ((k + 1 + 1 : Nat) : Int)) := rfl
      generalize out[k + 1] = y at *
      generalize out[k] = x at *
      subst hzk
      obtain ⟨q, hq⟩ : ∃ q, (y == -x) = q := ⟨_, rfl⟩
      rw [hq] at hyes hno
      clear m1 m0 hI hL1 hL0 hg1 hg0 hkz hok
      cases q
      · have hok2 := Lib.hid (hno.out rfl)
        clear hno hyes
        go_wp2_with fail
        refine wp_region_quiet_below (by kernel_rfl) (by kernel_rfl) ?_
        repeat (any_goals (go_big_quiet_step (fail)))
        refine wpQuiet_nil ?_
        rintro w4 ⟨p, rfl⟩
        have HS4 := Lib.hid (HS.out.grow (below_regrown _ p.d p.os))
        clear HS k0 k1
        go_wp2_with fail
        go_roundw
        case rel => exact ⟨k + 1, ((k + 1 + 1 : Nat) : Int), by omega, by omega, by omega, hkz2, rfl, hok2, HS4⟩
        case measure => simp [intOf]; omega
      · have hok2 := Lib.hid (hyes.out rfl)
        clear hno hyes
        go_wp2_with fail
        refine wp_region_quiet_below (by kernel_rfl) (by kernel_rfl) ?_
        repeat (any_goals (go_big_quiet_step (fail)))
        refine wpQuiet_nil ?_
        rintro w4 ⟨p, rfl⟩
        have HS4 := Lib.hid ((Sp.of_below (HS.out.grow (below_regrown _ p.d p.os)).below).own_nil 3 1)
        have hRn : Hid (R = none) := by unfold Hid; rw [hR.out, if_neg (by rw [hok2.out]; simp)]
        clear HS k0 k1 hR
        go_wp2_with fail
        go_ret2
        rw [hRn.out]
        exact ⟨none, 0, rfl, HS4.out⟩
    · have hRs : Hid (R = some out) := by
        unfold Hid
        rw [hR.out, if_pos]
        have h1 := hok.out
        have : out.length - 1 ≤ k := by have := hkz.out; omega
        unfold okTo at h1 ⊢
        rw [List.all_eq_true] at h1 ⊢
        exact fun i hi => h1 i (List.mem_range.2 (by have := List.mem_range.1 hi; omega))
      clear hR
      go_wp2_with fail
      go_ret2
      rw [hRs.out]
      exact ⟨D, dc, rfl, HS.out⟩
end Go.Proofs.Ytmikconjhmhekaa

/- Contracts: literals set, assignments merged, on both sides. -/
namespace Go.Proofs.Ytmikconjhmhekaa
open Go.RowKit

def mergeR (vars : Int) (a b : List Int) : Option (List Int) := if clauseB vars a && clauseB vars b then joinS a b else none
def setR (vars : Int) (a : List Int) (l : Int) : Option (List Int) := if clauseB vars a && litB vars l then some (setS a l) else none
theorem good_len_s {vars : Int} {c : List Int} (h : clauseB vars c = true) : c.length ≤ 1000 := (clause_s h).2
theorem isVarS_any (n x : Int) (w : World) : Calls Try.prog 183 #[.int .i64 n, .int .i64 x] w fun e w' => e = .returned (.bool (inB x 1 n)) ∧ w = w' := by
  obtain ⟨q, hq⟩ : ∃ q, inB x 1 n = q := ⟨_, rfl⟩
  have hc := Lib.hid (hq ▸ within_any x 1 n w)
  rw [hq]
  clear hq
  go_enter Try.func183, Try.ntmps183
  go_wp2_with fail
  refine hc.out.mono ?_
  rintro e w1 ⟨rfl, rfl⟩
  go_wp2_with fail
  go_ret
  exact ⟨rfl, rfl⟩

set_option maxHeartbeats 1000000 in
theorem mustClause_any (zs : List Int) (A : Option Addr) (cap : Nat) (w : World) (hx : IntsAt w A zs) (hz : ∀ x ∈ zs, LitS x) (hl : zs.length ≤ 2000) :
    Calls Try.prog 240 #[.slice A zs.length cap] w (OneI w ((clauseR zs).getD [])) := by
  have hc := Lib.hid (clause_any zs A cap w hx hz hl)
  generalize (clauseR zs).getD [] = R at *
  generalize (clauseR zs).isSome = q at *
  clear hx hz
  go_enter Try.func240, Try.ntmps240
  go_wp2_with fail
  refine hc.out.mono ?_
  rintro e w1 ⟨D, dc, rfl, T⟩
  replace T := Lib.hid T
  go_wp2_with fail
  go_ret
  exact ⟨D, dc, rfl, T.out⟩

set_option maxRecDepth 100000 in
set_option maxHeartbeats 2000000 in
theorem setI_any (a : List Int) (A : Option Addr) (cap : Nat) (l : Int) (w : World) (hx : IntsAt w A a) (ga : GoodS a) (hl : LitS l) (hal : a.length ≤ 1000) :
    Calls Try.prog 180 #[.slice A a.length cap, .int .i64 l] w (OneI w (setS a l)) := by
  obtain ⟨i0, hi0, hy0, hy1, hy2⟩ := info_parts infoInt
  have hab := Lib.hid (fun W => abs_at hl.i64 (rfl : absV l = absV l) W)
  have hwo := Lib.hid (fun W (h : Below w.heap.size w W) => withoutVar_any a A cap (absV l) W (hx.grow h) ga.mem hal)
  have hwl : (withoutB a (absV l)).length ≤ a.length := List.length_filter_le _ _
  have hlit : Hid (∀ x ∈ withoutB a (absV l) ++ [l], LitS x) := fun x hx => by
    rcases List.mem_append.1 hx with h | h
    · exact (without_good ga _).mem x h
    · obtain rfl : x = l := by simpa using h
      exact hl
  have hR := Lib.hid (clauseR_set ga hl)
  generalize setS a l = R at *
  generalize withoutB a (absV l) = b at *
  generalize absV l = v at *
  clear hx ga
  go_enter Try.func180, Try.ntmps180
  go_wp2_with fail
  refine (hab.out _).mono ?_
  rintro e w1 ⟨rfl, hb1⟩
  have S0 := Lib.hid (Sp.of_below hb1)
  have hwo2 := Lib.hid (hwo.out w1 hb1)
  clear hab hwo hb1
  go_wp2_with fail
  refine hwo2.out.mono ?_
  rintro e w2 ⟨D, dc, rfl, T⟩
  have S1 : Hid (Sp w w2 [Own 3 1 (.slice D b.length dc) b.length (b.map (.int .i64))]) := S0.out.seq T
  clear hwo2 S0 T
  have S3 := S1.out.alloc_box #[.int .i64 l] 3
  have kB := S3.cell (i := 0) rfl (o := 0) rfl
  replace S3 := Lib.hid S3
  clear S1
  go_wp2_with (at_builtin; refine wpList_append_src rfl _ _ rfl Try.underlying30 hi0 hy0 hy1 hy2 rfl (by decide) _ _ _ rfl (S3.out.own (i := 1) rfl) _ 1 1 [.int .i64 l] rfl (Src.one kB) (by simp [Value.oneCell']) ?c3 ?c4 ?_)
  case c3 => unfold maxLen; omega
  case c4 => omega
  intro vY wY hownY hgY hatY
  have S4 := (S3.out.own_push (i := 1) rfl (bb _) hownY hgY (by simpa using hatY)).tail
  obtain ⟨aY, cY, rfl⟩ := own_slice hownY
  have S5 := Lib.hid (ownI_snoc (d := b) (x := l) S4)
  clear S3 S4 kB hownY hgY hatY
  have hlen : b.length + 1 = (b ++ [l]).length := by simp
  rw [hlen]
  replace hlen := Lib.hid hlen
  have hI := S5.out.ints (i := 0) rfl (fun x hx => (hlit.out x hx).i64)
  have hbl : (b ++ [l]).length ≤ 2000 := by rw [← hlen.out]; omega
  have hmu := Lib.hid (mustClause_any (b ++ [l]) aY cY _ hI hlit.out hbl)
  rw [hR.out] at hmu
  clear hI hlit hR hlen hbl
  generalize b ++ [l] = zs at *
  go_wp2_with fail
  refine hmu.out.mono ?_
  rintro e w3 ⟨E, ec, rfl, T⟩
  have S6 := Lib.hid ((S5.out.seq T).pick (qs := [Own 3 1 (.slice E R.length ec) R.length (R.map (.int .i64))]) [0] rfl)
  clear S5 T hmu
  go_wp2_with fail
  go_ret
  exact ⟨E, ec, rfl, S6.out⟩

set_option maxRecDepth 100000 in
set_option maxHeartbeats 2000000 in
theorem l3Set_any (a : List Int) (v : Value) (F : List Nat) (l : Int) (w : World) (hx : Ty.int.row false w v a F) (ga : GoodS a) (hl : LitS l) (hal : a.length ≤ 1000) :
    Calls Try.prog 182 #[v, .int .i64 l] w (OneI w (setS a l)) := by
  obtain ⟨A, cap, rfl, -, -⟩ := Ty.row_len hx
  have hab := Lib.hid (fun W => l2Var_any l W)
  have hwo := Lib.hid (l2Without_any _ a (absV l) F w hx (by omega))
  have hwl : (withoutB a (absV l)).length ≤ a.length := List.length_filter_le _ _
  have hok : Hid (∀ x ∈ withoutB a (absV l), I64 x) := fun x h => ((without_good ga _).mem x h).i64
  have hR : Hid (putB (withoutB a (absV l)) l = setS a l) := rfl
  generalize setS a l = R at *
  generalize withoutB a (absV l) = b at *
  generalize absV l = v at *
  clear hx ga
  go_enter Try.func182, Try.ntmps182
  go_wp2_with fail
  refine (hab.out _).mono ?_
  rintro e w1 ⟨rfl, rfl⟩
  go_wp2_with fail
  refine hwo.out.mono ?_
  rintro e w2 ⟨v2, rfl, ho, hb2⟩
  have S1 := (Sp.start w).own_new hb2 (owns_zero ho) (owns_ge ho)
  obtain ⟨F2, hr2, -, -⟩ := own_row ho hok.out
  have hpu := Lib.hid (l2Put_any _ b l F2 w2 (Ty.row_down hr2) (by omega))
  rw [hR.out] at hpu
  replace S1 := Lib.hid S1
  clear hwo ho hb2 hr2 hok hR hab
  go_wp2_with fail
  refine hpu.out.mono ?_
  rintro e w3 ⟨v3, rfl, ho3, hb3⟩
  have S3 := (S1.out.own_new hb3 (owns_zero ho3) (owns_ge ho3)).swap.tail
  obtain ⟨D, dc, rfl⟩ := own_slice ho3
  replace S3 := Lib.hid S3
  clear hpu S1 ho3 hb3
  go_wp2_with fail
  go_ret
  exact ⟨D, dc, rfl, S3.out⟩

set_option maxRecDepth 100000 in
set_option maxHeartbeats 4000000 in
theorem implSetLiteral_any (vars : Int) (a : List Int) (A : Option Addr) (ac : Nat) (F : List Nat) (l : Int) (w : World) (hx : Ty.int.row false w (.slice A a.length ac) a F) :
    Calls Try.prog 77 #[.int .i64 vars, .slice A a.length ac, .int .i64 l] w (OwnAns w (setR vars a l).isSome ((setR vars a l).getD [])) := by
  have h1 := Lib.hid (implIsAssignment_any vars _ a F w hx)
  have h2 := Lib.hid (fun W (h : Below w.heap.size w W) => (same_below (isLiteral_any vars l W)))
  obtain ⟨_, _, e1, hI⟩ := ints_row hx
  cases e1
  unfold setR
  cases q1 : clauseB vars a
  · rw [q1] at h1
    simp only [Bool.false_and, Bool.false_eq_true, if_false, Option.isSome_none, Option.getD_none]
    clear hx h2
    go_enter Try.func77, Try.ntmps77
    go_wp2_with fail
    refine h1.out.mono ?_
    rintro e w1 ⟨rfl, hb1⟩
    have S := Lib.hid ((Sp.of_below hb1).own_nil 3 1)
    clear hb1
    go_wp2_with fail
    go_ret2
    exact ⟨none, 0, rfl, S.out⟩
  cases q2 : litB vars l
  · rw [q1] at h1
    rw [q2] at h2
    simp only [Bool.and_false, Bool.false_eq_true, if_false, Option.isSome_none, Option.getD_none]
    clear hx
    go_enter Try.func77, Try.ntmps77
    go_wp2_with fail
    refine h1.out.mono ?_
    rintro e w1 ⟨rfl, hb1⟩
    have hB1 := Lib.hid hb1
    have h3 := Lib.hid (h2.out w1 hb1)
    clear h2 hb1
    go_wp2_with fail
    refine h3.out.mono ?_
    rintro e w2 ⟨rfl, hb2⟩
    have hb1 := btr hB1.out hb2
    clear hb2
    have S := Lib.hid ((Sp.of_below hb1).own_nil 3 1)
    clear hb1
    go_wp2_with fail
    go_ret2
    exact ⟨none, 0, rfl, S.out⟩
  rw [q1] at h1
  rw [q2] at h2
  simp only [Bool.and_self, if_true, Option.isSome_some, Option.getD_some]
  have gg := good_s q1
  have hls : LitS l := by
    have h0 := (clause_parts q1).1
    have := lit_small h0 q2
    unfold LitS; omega
  have hset := Lib.hid (fun W (h : Below w.heap.size w W) => setI_any a A ac l W (hI.grow h) gg hls (good_len_s q1))
  generalize setS a l = R at *
  clear hx gg
  go_enter Try.func77, Try.ntmps77
  go_wp2_with fail
  refine h1.out.mono ?_
  rintro e w1 ⟨rfl, hb1⟩
  have hB1 := Lib.hid hb1
  have h3 := Lib.hid (h2.out w1 hb1)
  clear h2 hb1
  go_wp2_with fail
  refine h3.out.mono ?_
  rintro e w2 ⟨rfl, hb2⟩
  have hB2 := Lib.hid (btr hB1.out hb2)
  clear hb2 hB1 h3
  have hs2 := Lib.hid (hset.out w2 hB2.out)
  have S0 := Lib.hid (Sp.of_below hB2.out)
  clear hset hB2
  go_wp2_with fail
  refine hs2.out.mono ?_
  rintro e w3 ⟨D, dc, rfl, T⟩
  have S1 := Lib.hid (S0.out.seq T)
  clear S0 T hs2
  go_wp2_with fail
  go_ret2
  exact ⟨D, dc, rfl, S1.out⟩

set_option maxRecDepth 100000 in
set_option maxHeartbeats 4000000 in
theorem specSetLiteral_any (vars : Int) (a : List Int) (A : Option Addr) (ac : Nat) (F : List Nat) (l : Int) (w : World) (hx : Ty.int.row false w (.slice A a.length ac) a F) :
    Calls Try.prog 78 #[.int .i64 vars, .slice A a.length ac, .int .i64 l] w (OwnAns w (setR vars a l).isSome ((setR vars a l).getD [])) := by
  have h1 := Lib.hid (l3Good_any vars _ a F w hx)
  have h2 := Lib.hid (fun W (h : Below w.heap.size w W) => (same_below (l2Lit_any vars l W)))
  unfold setR
  cases q1 : clauseB vars a
  · rw [q1] at h1
    simp only [Bool.false_and, Bool.false_eq_true, if_false, Option.isSome_none, Option.getD_none]
    clear hx h2
    go_enter Try.func78, Try.ntmps78
    go_wp2_with fail
    refine h1.out.mono ?_
    rintro e w1 ⟨rfl, hb1⟩
    have S := Lib.hid ((Sp.of_below hb1).own_made 3 1)
    clear hb1
    go_wp2_with fail
    go_ret2
    exact ⟨_, _, rfl, S.out⟩
  cases q2 : litB vars l
  · rw [q1] at h1
    rw [q2] at h2
    simp only [Bool.and_false, Bool.false_eq_true, if_false, Option.isSome_none, Option.getD_none]
    clear hx
    go_enter Try.func78, Try.ntmps78
    go_wp2_with fail
    refine h1.out.mono ?_
    rintro e w1 ⟨rfl, hb1⟩
    have hB1 := Lib.hid hb1
    have h3 := Lib.hid (h2.out w1 hb1)
    clear h2 hb1
    go_wp2_with fail
    refine h3.out.mono ?_
    rintro e w2 ⟨rfl, hb2⟩
    have hb1 := btr hB1.out hb2
    clear hb2
    have S := Lib.hid ((Sp.of_below hb1).own_made 3 1)
    clear hb1
    go_wp2_with fail
    go_ret2
    exact ⟨_, _, rfl, S.out⟩
  rw [q1] at h1
  rw [q2] at h2
  simp only [Bool.and_self, if_true, Option.isSome_some, Option.getD_some]
  have gg := good_s q1
  have hls : LitS l := by
    have h0 := (clause_parts q1).1
    have := lit_small h0 q2
    unfold LitS; omega
  have hset := Lib.hid (fun W (h : Below w.heap.size w W) => l3Set_any a _ F l W (Ty.row_grow hx h) gg hls (good_len_s q1))
  generalize setS a l = R at *
  clear hx gg
  go_enter Try.func78, Try.ntmps78
  go_wp2_with fail
  refine h1.out.mono ?_
  rintro e w1 ⟨rfl, hb1⟩
  have hB1 := Lib.hid hb1
  have h3 := Lib.hid (h2.out w1 hb1)
  clear h2 hb1
  go_wp2_with fail
  refine h3.out.mono ?_
  rintro e w2 ⟨rfl, hb2⟩
  have hB2 := Lib.hid (btr hB1.out hb2)
  clear hb2 hB1 h3
  have hs2 := Lib.hid (hset.out w2 hB2.out)
  have S0 := Lib.hid (Sp.of_below hB2.out)
  clear hset hB2
  go_wp2_with fail
  refine hs2.out.mono ?_
  rintro e w3 ⟨D, dc, rfl, T⟩
  have S1 := Lib.hid (S0.out.seq T)
  clear S0 T hs2
  go_wp2_with fail
  go_ret2
  exact ⟨D, dc, rfl, S1.out⟩
end Go.Proofs.Ytmikconjhmhekaa

/- Contracts: assignments merged, on both sides; extended, unset, and their bits, in the program. -/
namespace Go.Proofs.Ytmikconjhmhekaa
open Go.RowKit

set_option maxRecDepth 100000 in
set_option maxHeartbeats 4000000 in
theorem implMerge_any (vars : Int) (a : List Int) (A : Option Addr) (ac : Nat) (F : List Nat) (b : List Int) (B : Option Addr) (bc : Nat) (G : List Nat) (w : World) (hx : Ty.int.row false w (.slice A a.length ac) a F) (hy : Ty.int.row false w (.slice B b.length bc) b G) :
    Calls Try.prog 73 #[.int .i64 vars, .slice A a.length ac, .slice B b.length bc] w (OwnAns w (mergeR vars a b).isSome ((mergeR vars a b).getD [])) := by
  have h1 := Lib.hid (implIsAssignment_any vars _ a F w hx)
  have h2 := Lib.hid (fun W (h : Below w.heap.size w W) => implIsAssignment_any vars _ b G W (Ty.row_grow hy h))
  obtain ⟨_, _, e1, hI⟩ := ints_row hx
  cases e1
  obtain ⟨_, _, e1, hJ⟩ := ints_row hy
  cases e1
  unfold mergeR
  cases q1 : clauseB vars a
  · rw [q1] at h1
    simp only [Bool.false_and, Bool.false_eq_true, if_false, Option.isSome_none, Option.getD_none]
    clear hx h2
    go_enter Try.func73, Try.ntmps73
    go_wp2_with fail
    refine h1.out.mono ?_
    rintro e w1 ⟨rfl, hb1⟩
    have S := Lib.hid ((Sp.of_below hb1).own_nil 3 1)
    clear hb1
    go_wp2_with fail
    go_ret2
    exact ⟨none, 0, rfl, S.out⟩
  cases q2 : clauseB vars b
  · rw [q1] at h1
    rw [q2] at h2
    simp only [Bool.and_false, Bool.false_eq_true, if_false, Option.isSome_none, Option.getD_none]
    clear hx
    go_enter Try.func73, Try.ntmps73
    go_wp2_with fail
    refine h1.out.mono ?_
    rintro e w1 ⟨rfl, hb1⟩
    have hB1 := Lib.hid hb1
    have h3 := Lib.hid (h2.out w1 hb1)
    clear h2 hb1
    go_wp2_with fail
    refine h3.out.mono ?_
    rintro e w2 ⟨rfl, hb2⟩
    have hb1 := btr hB1.out hb2
    clear hb2
    have S := Lib.hid ((Sp.of_below hb1).own_nil 3 1)
    clear hb1
    go_wp2_with fail
    go_ret2
    exact ⟨none, 0, rfl, S.out⟩
  rw [q1] at h1
  rw [q2] at h2
  simp only [Bool.and_self, if_true]
  have ga := good_s q1
  have gb := good_s q2
  have la := good_len_s q1
  have lb := good_len_s q2
  have hs1 := Lib.hid (fun W (h : Below w.heap.size w W) => ints_src (hI.grow h) rfl)
  have hs2 := Lib.hid (fun W (h : Below w.heap.size w W) => ints_src (hJ.grow h) rfl)
  have hlit : Hid (∀ x ∈ a ++ b, LitS x) := fun x hx => by
    rcases List.mem_append.1 hx with h | h
    · exact ga.mem x h
    · exact gb.mem x h
  have hR := Lib.hid (clauseR_join ga gb)
  have hmap : Hid (a.map (Value.int .i64) ++ b.map (Value.int .i64) = (a ++ b).map (Value.int .i64)) := by unfold Hid; rw [List.map_append]
  have hlen : Hid (a.length + b.length = (a ++ b).length) := by unfold Hid; rw [List.length_append]
  generalize joinS a b = R at *
  clear hx hy hI hJ ga gb
  go_enter Try.func73, Try.ntmps73
  go_wp2_with fail
  refine h1.out.mono ?_
  rintro e w1 ⟨rfl, hb1⟩
  have hB1 := Lib.hid hb1
  have h3 := Lib.hid (h2.out w1 hb1)
  clear h2 hb1
  go_wp2_with fail
  refine h3.out.mono ?_
  rintro e w2 ⟨rfl, hb2⟩
  have hB2 := Lib.hid (btr hB1.out hb2)
  clear hb2 hB1 h3
  have S0 := Lib.hid ((Sp.of_below hB2.out).alloc_box #[.slice A a.length ac, .slice B b.length bc] 30)
  have hco := Lib.hid (concatI_any w2.heap.size A B a.length b.length ac bc _ _ _ (S0.out.cell (i := 0) rfl (o := 0) rfl) (S0.out.cell (i := 0) rfl (o := 1) rfl) (hs1.out _ S0.out.below) (hs2.out _ S0.out.below) (ints_one a) (ints_one b) la lb)
  clear hB2 hs1 hs2
  go_wp2_with fail
  refine hco.out.mono ?_
  rintro e w3 ⟨E, ec, rfl, T⟩
  have S1 := S0.out.seq T
  rw [hmap.out, hlen.out] at S1
  rw [hlen.out]
  have hI := S1.ints (i := 0) rfl (fun x hx => (hlit.out x hx).i64)
  have hll : (a ++ b).length ≤ 2000 := by rw [← hlen.out]; omega
  have hcl := Lib.hid (clause_any (a ++ b) E ec _ hI hlit.out hll)
  rw [hR.out] at hcl
  replace S1 := Lib.hid S1
  clear S0 T hI hco hmap hlen hR hlit hll la lb q1 q2
  generalize R.isSome = q at *
  generalize R.getD [] = zs at *
  generalize a ++ b = ab at *
  go_wp2_with fail
  refine hcl.out.mono ?_
  rintro e w4 ⟨D, dc, rfl, T⟩
  have S2 := Lib.hid ((S1.out.seq T).pick (qs := [Own 3 1 (.slice D zs.length dc) zs.length (zs.map (.int .i64))]) [0] rfl)
  clear S1 T hcl
  go_wp2_with fail
  go_ret2
  exact ⟨D, dc, rfl, S2.out⟩

set_option maxRecDepth 100000 in
set_option maxHeartbeats 4000000 in
theorem specMerge_any (vars : Int) (a : List Int) (A : Option Addr) (ac : Nat) (F : List Nat) (b : List Int) (B : Option Addr) (bc : Nat) (G : List Nat) (w : World) (hx : Ty.int.row false w (.slice A a.length ac) a F) (hy : Ty.int.row false w (.slice B b.length bc) b G) :
    Calls Try.prog 74 #[.int .i64 vars, .slice A a.length ac, .slice B b.length bc] w (IAns w (mergeR vars a b).isSome ((mergeR vars a b).getD [])) := by
  have h1 := Lib.hid (l3Good_any vars _ a F w hx)
  have h2 := Lib.hid (fun W (h : Below w.heap.size w W) => l3Good_any vars _ b G W (Ty.row_grow hy h))
  obtain ⟨_, _, e1, hI⟩ := ints_row hx
  cases e1
  obtain ⟨_, _, e1, hJ⟩ := ints_row hy
  cases e1
  unfold mergeR
  cases q1 : clauseB vars a
  · rw [q1] at h1
    simp only [Bool.false_and, Bool.false_eq_true, if_false, Option.isSome_none, Option.getD_none]
    clear hx h2
    go_enter Try.func74, Try.ntmps74
    go_wp2_with fail
    refine h1.out.mono ?_
    rintro e w1 ⟨rfl, hb1⟩
    have S := Lib.hid ((Sp.of_below hb1).own_made 3 1)
    clear hb1
    go_wp2_with fail
    go_ret2
    exact ⟨_, _, rfl, IntsAt.nil _ _, S.out.below⟩
  cases q2 : clauseB vars b
  · rw [q1] at h1
    rw [q2] at h2
    simp only [Bool.and_false, Bool.false_eq_true, if_false, Option.isSome_none, Option.getD_none]
    clear hx
    go_enter Try.func74, Try.ntmps74
    go_wp2_with fail
    refine h1.out.mono ?_
    rintro e w1 ⟨rfl, hb1⟩
    have hB1 := Lib.hid hb1
    have h3 := Lib.hid (h2.out w1 hb1)
    clear h2 hb1
    go_wp2_with fail
    refine h3.out.mono ?_
    rintro e w2 ⟨rfl, hb2⟩
    have hb1 := btr hB1.out hb2
    clear hb2
    have S := Lib.hid ((Sp.of_below hb1).own_made 3 1)
    clear hb1
    go_wp2_with fail
    go_ret2
    exact ⟨_, _, rfl, IntsAt.nil _ _, S.out.below⟩
  rw [q1] at h1
  rw [q2] at h2
  simp only [Bool.and_self, if_true]
  have ga := good_s q1
  have gb := good_s q2
  have la := good_len_s q1
  have lb := good_len_s q2
  have hwa : Within 1000 a := fun x hx => by have := ga.mem x hx; unfold LitS at this; omega
  have hwb : Within 1000 b := fun x hx => by have := gb.mem x hx; unfold LitS at this; omega
  have hjo := Lib.hid (fun W (h : Below w.heap.size w W) => l2JoinS_any _ _ a b F G W (Ty.row_grow hx h) (Ty.row_grow hy h) hwa hwb la lb)
  generalize (joinS a b).isSome = q at *
  generalize (joinS a b).getD [] = zs at *
  clear hx hy hI hJ ga gb
  go_enter Try.func74, Try.ntmps74
  go_wp2_with fail
  refine h1.out.mono ?_
  rintro e w1 ⟨rfl, hb1⟩
  have hB1 := Lib.hid hb1
  have h3 := Lib.hid (h2.out w1 hb1)
  clear h2 hb1
  go_wp2_with fail
  refine h3.out.mono ?_
  rintro e w2 ⟨rfl, hb2⟩
  have hB2 := Lib.hid (btr hB1.out hb2)
  clear hb2 hB1 h3
  have hj2 := Lib.hid (hjo.out w2 hB2.out)
  clear hjo
  go_wp2_with fail
  refine hj2.out.mono ?_
  rintro e w3 ⟨D, dc, rfl, hZ, hb3⟩
  have hB3 := Lib.hid (btr hB2.out hb3)
  replace hZ := Lib.hid hZ
  clear hB2 hb3 hj2
  go_wp2_with fail
  go_ret2
  exact ⟨D, dc, rfl, hZ.out, hB3.out⟩

set_option maxHeartbeats 1000000 in
theorem part1_any (x : Int) (rb : Nat) (R : Option Addr) (rc : Nat) (rs : List Int) (w : World) (c0 : w.cell? ⟨rb, 0, none⟩ = some (.slice R rs.length rc)) (hR : IntsAt w R rs) (hl : rs.length ≤ 1000) :
    Calls Try.prog 239 #[.int .i64 x, .pointer (some ⟨rb, 0, none⟩)] w fun e w' => e = .returned (.bool (!hasI rs x)) ∧ Below w.heap.size w w' := by
  have hc := Lib.hid (containsIA_any rs R rc x w hR (by omega))
  clear hR
  go_enter Try.func239, Try.ntmps239
  go_wp2_with fail
  refine hc.out.mono ?_
  rintro e w1 ⟨rfl, rfl⟩
  go_wp2_with fail
  go_ret
  exact ⟨rfl, bb _⟩
set_option maxHeartbeats 1000000 in
theorem part_any (a b : List Int) (A B : Option Addr) (ac bc : Nat) (w : World) (hx : IntsAt w A a) (hy : IntsAt w B b) (la : a.length ≤ 1000) (lb : b.length ≤ 1000) :
    Calls Try.prog 177 #[.slice A a.length ac, .slice B b.length bc] w fun e w' => e = .returned (.bool (a.all (hasI b))) ∧ Below w.heap.size w w' := by
  have eg : Enter1 239 := enters_of Try.func239 (by kernel_rfl) rfl
  have S0 := (Sp.start w).alloc_box #[.slice B b.length bc] 30
  have c0 := S0.cell (i := 0) rfl (o := 0) rfl
  have hcon := Lib.hid (containsI_any (cb := #[.pointer (some ⟨w.heap.size, 0, none⟩)]) (p := fun x => !hasI b x) (R := fun _ => True) eg a A ac _ (hx.grow S0.below) (by omega) (fun _ _ => trivial) fun x W _ hb => part1_any x w.heap.size B bc b W (cell_below c0 hb) ((hy.grow S0.below).grow hb) lb)
  have hq : (a.all (hasI b)) = !(a.any fun x => !hasI b x) := by rw [List.all_eq_not_any_not]
  rw [hq]
  generalize (a.any fun x => !hasI b x) = q at *
  replace S0 := Lib.hid S0
  clear hx hy c0 hq
  go_enter Try.func177, Try.ntmps177
  go_wp2_with fail
  refine hcon.out.mono ?_
  rintro e w1 ⟨rfl, hb1⟩
  have hB := Lib.hid (S0.out.grow hb1).below
  clear hcon S0 hb1
  go_wp2_with fail
  go_ret
  exact ⟨rfl, hB.out⟩

set_option maxRecDepth 100000 in
set_option maxHeartbeats 4000000 in
theorem implExtend_any (vars : Int) (a : List Int) (A : Option Addr) (ac : Nat) (F : List Nat) (b : List Int) (B : Option Addr) (bc : Nat) (G : List Nat) (w : World) (hx : Ty.int.row false w (.slice A a.length ac) a F) (q1 : clauseB vars a = true) (hy : Ty.int.row false w (.slice B b.length bc) b G) (q2 : clauseB vars b = true) :
    Calls Try.prog 75 #[.int .i64 vars, .slice A a.length ac, .slice B b.length bc] w (fun e w' => e = .returned (.tuple #[.bool (a.all (hasI b)), .bool true]) ∧ Below w.heap.size w w') := by
  have h1 := Lib.hid (implIsAssignment_any vars _ a F w hx)
  have h2 := Lib.hid (fun W (h : Below w.heap.size w W) => implIsAssignment_any vars _ b G W (Ty.row_grow hy h))
  rw [q1] at h1
  rw [q2] at h2
  obtain ⟨_, _, e1, hI⟩ := ints_row hx
  cases e1
  obtain ⟨_, _, e1, hJ⟩ := ints_row hy
  cases e1
  have hp := Lib.hid (fun W (h : Below w.heap.size w W) => part_any a b A B ac bc W (hI.grow h) (hJ.grow h) (good_len_s q1) (good_len_s q2))
  generalize a.all (hasI b) = q at *
  clear hx hy hI hJ
  go_enter Try.func75, Try.ntmps75
  go_wp2_with fail
  refine h1.out.mono ?_
  rintro e w1 ⟨rfl, hb1⟩
  have hB1 := Lib.hid hb1
  have h3 := Lib.hid (h2.out w1 hb1)
  clear h2 hb1
  go_wp2_with fail
  refine h3.out.mono ?_
  rintro e w2 ⟨rfl, hb2⟩
  have hB2 := Lib.hid (btr hB1.out hb2)
  clear hb2 hB1 h3
  have hp2 := Lib.hid (hp.out w2 hB2.out)
  clear hp
  go_wp2_with fail
  refine hp2.out.mono ?_
  rintro e w3 ⟨rfl, hb3⟩
  have hB3 := Lib.hid (btr hB2.out hb3)
  clear hB2 hb3 hp2
  go_wp2_with fail
  go_ret2
  exact ⟨rfl, hB3.out⟩

set_option maxRecDepth 100000 in
set_option maxHeartbeats 4000000 in
theorem implUnset_any (vars : Int) (a : List Int) (A : Option Addr) (ac : Nat) (F : List Nat) (v : Int) (w : World) (hx : Ty.int.row false w (.slice A a.length ac) a F) (q1 : clauseB vars a = true) (q2 : inB v 1 vars = true) :
    Calls Try.prog 79 #[.int .i64 vars, .slice A a.length ac, .int .i64 v] w (OwnAns w true (withoutB a v)) := by
  have h1 := Lib.hid (implIsAssignment_any vars _ a F w hx)
  have h2 := Lib.hid (fun W (h : Below w.heap.size w W) => (same_below (isVarS_any vars v W)))
  rw [q1] at h1
  rw [q2] at h2
  obtain ⟨_, _, e1, hI⟩ := ints_row hx
  cases e1
  have hp := Lib.hid (fun W (h : Below w.heap.size w W) => withoutVar_any a A ac v W (hI.grow h) (good_s q1).mem (good_len_s q1))
  generalize withoutB a v = zs at *
  clear hx hI
  go_enter Try.func79, Try.ntmps79
  go_wp2_with fail
  refine h1.out.mono ?_
  rintro e w1 ⟨rfl, hb1⟩
  have hB1 := Lib.hid hb1
  have h3 := Lib.hid (h2.out w1 hb1)
  clear h2 hb1
  go_wp2_with fail
  refine h3.out.mono ?_
  rintro e w2 ⟨rfl, hb2⟩
  have hB2 := Lib.hid (btr hB1.out hb2)
  clear hb2 hB1 h3
  have hp2 := Lib.hid (hp.out w2 hB2.out)
  have S0 := Lib.hid (Sp.of_below hB2.out)
  clear hp hB2
  go_wp2_with fail
  refine hp2.out.mono ?_
  rintro e w3 ⟨D, dc, rfl, T⟩
  have S1 := Lib.hid (S0.out.seq T)
  clear S0 T hp2
  go_wp2_with fail
  go_ret2
  exact ⟨D, dc, rfl, S1.out⟩
end Go.Proofs.Ytmikconjhmhekaa

/- Contracts: the bits of a total assignment, in the program; numbers held, in the laws. -/
namespace Go.Proofs.Ytmikconjhmhekaa
open Go.RowKit

theorem or_natS (a b : Nat) (ha : a < 2 ^ 62) (hb : b < 2 ^ 62) : bits .or .i64 (a : Int) (b : Int) = ((a ||| b : Nat) : Int) := by
  have h := bits_nat .i64 62 (by decide) (fun n h0 h1 => by rw [IntKind.wrap_i64]; have : (2 : Int) ^ 62 = 4611686018427387904 := by decide
                                                            omega) a b ha hb
  exact h.2
theorem mod_next (b k : Nat) : b % 2 ^ (k + 1) = if b.testBit k then (b % 2 ^ k) ||| 2 ^ k else b % 2 ^ k := by
  rw [Nat.mod_pow_succ, Nat.testBit_eq_decide_div_mod_eq]
  have h : b % 2 ^ k < 2 ^ k := Nat.mod_lt _ (Nat.two_pow_pos k)
  have h3 : b / 2 ^ k % 2 < 2 := Nat.mod_lt _ (by decide)
  by_cases h1 : b / 2 ^ k % 2 = 1
  · rw [h1, decide_eq_true rfl, if_pos rfl, Nat.mul_one]
    have h2 := Nat.two_pow_add_eq_or_of_lt h 1
    rw [Nat.mul_one] at h2
    rw [Nat.or_comm, ← h2, Nat.add_comm]
  · have h4 : b / 2 ^ k % 2 = 0 := by omega
    rw [h4]
    simp

set_option maxRecDepth 100000 in
set_option maxHeartbeats 4000000 in
theorem bitsOf_any (n b : Nat) (hn : n ≤ 12) (hb : b < 2 ^ n) (A : Option Addr) (cap : Nat) (w : World) (hx : IntsAt w A (totB n b)) :
    Calls Try.prog 171 #[.slice A n cap] w fun e w' => e = .returned (.int .i64 b) ∧ w = w' := by
  have hX := Lib.hid hx
  have hlen := Lib.hid (tot_len n b)
  have hfin : Hid (b % 2 ^ n = b) := Lib.hid (Nat.mod_eq_of_lt hb)
  have h0 : Hid (b % 2 ^ 0 = 0) := Lib.hid (by simp [Nat.mod_one])
  have hlt : Hid (∀ k, k ≤ 12 → b % 2 ^ k < 4096) := fun k hk => Nat.lt_of_lt_of_le (Nat.mod_lt _ (Nat.two_pow_pos k)) (Nat.le_trans (Nat.pow_le_pow_right (by decide : 0 < 2) hk) (by decide))
  clear hx hb
  go_enter Try.func171, Try.ntmps171
  go_wp2_with fail
  go_loopw [3, 5, 8] (fun v3 _ v8 wr => ∃ (k x : Nat), k ≤ n ∧ v8 = .int .i64 k ∧ v3 = .int .i64 x ∧ Hid (b % 2 ^ k = x) ∧ wr = w) (fun _ _ v8 _ => n - (intOf v8).toNat)
  case atStart => exact ⟨0, 0, Nat.zero_le _, rfl, rfl, h0, rfl⟩
  case round =>
    obtain ⟨k, x, hk, rfl, rfl, hx, rfl⟩ := hrel
    by_cases hlt2 : k < n
    · obtain ⟨db, doff, rfl, m0⟩ := hX.out.at_ k (by rw [hlen.out]; exact hlt2)
      have hk12 : k ≤ 12 := by omega
      obtain ⟨hsh, hp⟩ := pow12 (v := k) hk12
      have hti : (totB n b)[k]'(by rw [hlen.out]; exact hlt2) = totI b k := by simp [totB]
      rw [hti] at m0
      have hxl : x < 4096 := by rw [← hx.out]; exact hlt.out k hk12
      have hnx := mod_next b k
      rw [hx.out] at hnx
      obtain ⟨y, hy⟩ : ∃ y, b % 2 ^ (k + 1) = y := ⟨_, rfl⟩
      rw [hy] at hnx
      replace hy := Lib.hid hy
      have hor := or_natS x (2 ^ k) (by omega) (by omega)
      obtain ⟨P, hP⟩ : ∃ P, 2 ^ k = P := ⟨_, rfl⟩
      rw [hP] at hsh hnx hor
      clear hti hx hP hp
      unfold totI at m0
      cases hq : b.testBit k
      · rw [hq] at m0 hnx
        simp only [Bool.false_eq_true, if_false] at m0 hnx
        subst hnx
        obtain ⟨l, hl⟩ : ∃ l : Int, -((k : Int) + 1) = l := ⟨_, rfl⟩
        rw [hl] at m0
        have hneg : decide ((0 : Int) < l) = false := decide_eq_false (by omega)
        clear hl hsh hor hq
        go_wp2_with fail
        go_roundw
        case rel => exact ⟨k + 1, y, by omega, by go_num, rfl, hy, by first | rfl | trivial⟩
        case measure => simp [intOf]; omega
      · rw [hq] at m0 hnx
        simp only [if_true] at m0 hnx
        rw [← hnx] at hor
        obtain ⟨l, hl⟩ : ∃ l : Int, (k : Int) + 1 = l := ⟨_, rfl⟩
        rw [hl] at m0
        have hpos : decide ((0 : Int) < l) = true := decide_eq_true (by omega)
        have hw1 : IntKind.i64.wrap (l - 1) = (k : Int) := by rw [IntWalk.i64_in _ (by omega)]; omega
        have hk0 : (0 : Int) ≤ (k : Int) := by omega
        clear hl hnx hq
        go_wp2_with fail
        go_roundw
        case rel => exact ⟨k + 1, y, by omega, by go_num, rfl, hy, by first | rfl | trivial⟩
        case measure => simp [intOf]; omega
    · obtain rfl : k = n := by omega
      have hxb : Hid (x = b) := by unfold Hid; rw [← hx.out]; exact hfin.out
      clear hx hfin
      go_wp2_with fail
      go_ret
      exact ⟨by first | (rw [hxb.out]; rfl) | rw [hxb.out], rfl⟩

set_option maxRecDepth 100000 in
set_option maxHeartbeats 2000000 in
theorem bitsOfTotal_any (n b : Nat) (hn : n ≤ 12) (hb : b < 2 ^ n) (A : Option Addr) (cap : Nat) (F : List Nat) (w : World) (hx : Ty.int.row false w (.slice A (totB n b).length cap) (totB n b) F) (hc : clauseB n (totB n b) = true) :
    Calls Try.prog 70 #[.int .i64 n, .slice A (totB n b).length cap] w fun e w' => e = .returned (.tuple #[.int .i64 b, .bool true]) ∧ Below w.heap.size w w' := by
  obtain ⟨_, _, e1, hI⟩ := ints_row hx
  cases e1
  have h1 := Lib.hid (implIsAssignment_any n _ _ F w hx)
  rw [hc] at h1
  rw [tot_len] at h1 ⊢
  have h2 := Lib.hid (fun W (h : Below w.heap.size w W) => bitsOf_any n b hn hb A cap W (hI.grow h))
  have hne : ((n : Int) != (n : Int)) = false := by simp
  clear hx hI hc hb
  go_enter Try.func70, Try.ntmps70
  go_wp2_with fail
  refine h1.out.mono ?_
  rintro e w1 ⟨rfl, hb1⟩
  have h3 := Lib.hid (h2.out w1 hb1)
  replace hb1 := Lib.hid hb1
  clear h2
  go_wp2_with fail
  refine h3.out.mono ?_
  rintro e w2 ⟨rfl, rfl⟩
  go_wp2_with fail
  go_ret2
  exact ⟨rfl, hb1.out⟩

set_option maxHeartbeats 1000000 in
theorem vHas_any (xs : List Int) (A : Option Addr) (cap : Nat) (x : Int) (w : World) (hx : IntsAt w A xs) (hl : xs.length ≤ 1000000) :
    Calls Try.prog 80 #[.slice A xs.length cap, .int .i64 x] w fun e w' => e = .returned (.bool (hasI xs x)) ∧ w = w' := by
  have hX := Lib.hid hx
  clear hx
  go_enter Try.func80, Try.ntmps80
  go_wp2_with fail
  go_loopw [5] (fun i wr => ∃ k : Nat, k ≤ xs.length ∧ i = .int .i64 k ∧ Hid (hasI (xs.take k) x = false) ∧ w = wr) (fun i _ => xs.length - (intOf i).toNat)
  case atStart => exact ⟨0, Nat.zero_le _, rfl, by simp [Hid, hasI], rfl⟩
  case round =>
    obtain ⟨k, hk, rfl, HR, rfl⟩ := hrel
    by_cases hlt : k < xs.length
    · obtain ⟨b, off, rfl, k0⟩ := hX.out.at_ k hlt
      by_cases he : xs[k] = x
      · have HN : Hid (hasI xs x = true) := hasI_yes hlt he
        have he' : (xs[k] == x) = true := by simpa using he
        clear he HR
        go_wp2_with fail
        go_ret
        exact ⟨ret_bool HN.out.symm, rfl⟩
      · have HN : Hid (hasI (xs.take (k + 1)) x = false) := hasI_no hlt HR.out he
        have he' : (xs[k] == x) = false := by simpa using he
        clear he HR
        go_wp2_with fail
        go_roundw
        case rel => exact ⟨k + 1, by omega, by go_num, HN, by first | rfl | trivial⟩
        case measure => simp [intOf]; omega
    · obtain rfl : k = xs.length := by omega
      have HN := HR.out
      rw [List.take_length] at HN
      replace HN := Lib.hid HN
      clear HR
      go_wp2_with fail
      go_ret
      exact ⟨ret_bool HN.out.symm, rfl⟩
end Go.Proofs.Ytmikconjhmhekaa
