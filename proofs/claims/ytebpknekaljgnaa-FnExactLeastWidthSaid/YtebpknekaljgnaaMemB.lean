/- Contracts: rows of ints in the laws: compared, marked, held, copied. -/
import Derived.Test.YtebpknekaljgnaaMemA
import Derived.Test.YtebpknekaljgnaaProg
import Derived.WalkLawsBesides
import Derived.WalkSpells
namespace Go.Proofs.Ytebpknekaljgnaa
open Go.RowKit

set_option maxHeartbeats 1000000 in
theorem eqIntS_any (v u : Value) (xs ys : List Int) (F G : List Nat) (w : World) (hx : Ty.int.row false w v xs F) (hy : Ty.int.row false w u ys G) :
    Calls Try.prog 14 #[v, u] w fun e w' => e = .returned (.bool (decide (xs = ys))) ∧ Below w.heap.size w w' := by
  obtain ⟨a, c, rfl, hx1, hx2, _, hx3⟩ := row_int hx
  obtain ⟨a', c', rfl, hy1, hy2, _, hy3⟩ := row_int hy
  by_cases hl : xs.length = ys.length
  case neg =>
    have hne : ((xs.length : Int) == (ys.length : Int)) = false := by simp; omega
    have hd : Hid (decide (xs = ys) = false) := by unfold Hid; simp; rintro rfl; exact hl rfl
    clear hl
    go_enter Try.func14, Try.ntmps14
    go_wp2_with fail
    go_ret
    exact ⟨ret_bool hd.out.symm, bb _⟩
  rcases hx3 with ⟨rfl, rfl⟩ | ⟨hxn, b, off, rfl, rfl, hxc⟩
  · have : ys = [] := List.length_eq_zero_iff.1 (by simpa using hl.symm)
    subst this
    go_enter Try.func14, Try.ntmps14
    go_wp2_with fail
    refine wp_loop_rounds 1 ?_
    rw [rounds_succ]
    go_wp2_with fail
    go_ret
    exact ⟨rfl, bb _⟩
  rcases hy3 with ⟨rfl, rfl⟩ | ⟨hyn, b', off', rfl, rfl, hyc⟩
  · exact absurd (List.length_eq_zero_iff.1 (by simpa using hl)) hxn
  have hne : ((xs.length : Int) == (ys.length : Int)) = true := by simp; omega
  replace hl := (show Hid (xs.length = ys.length) from hl)
  go_enter Try.func14, Try.ntmps14
  go_wp2_with fail
  go_loopw [5] (fun i wr => ∃ k : Nat, k ≤ xs.length ∧ i = .int .i64 k ∧ Hid (xs.take k = ys.take k) ∧ Below w.heap.size w wr) (fun i _ => xs.length - (intOf i).toNat)
  case atStart => exact ⟨0, Nat.zero_le _, rfl, by simp [Hid], bb _⟩
  case round =>
    obtain ⟨k, hk, rfl, HR, hB⟩ := hrel
    by_cases hlt : k < xs.length
    · have hlt' : k < ys.length := by have := hl.out; omega
      have k0 := cell_regrown ((hxc k hlt).keep (hB.block b (hxc k hlt).lt)).1
      have k1 := cell_regrown ((hyc k hlt').keep (hB.block b' (hyc k hlt').lt)).1
      have HS : Hid (xs.take (k + 1) = ys.take (k + 1) ↔ xs[k] = ys[k]) := by
        unfold Hid
        rw [List.take_succ_eq_append_getElem hlt, List.take_succ_eq_append_getElem hlt', HR.out]
        exact ⟨fun h => by have := List.append_cancel_left h; simpa using this, fun h => by rw [h]⟩
      by_cases he : xs[k] = ys[k]
      · have he' : (xs[k] != ys[k]) = false := by simpa using he
        have HN : Hid (xs.take (k + 1) = ys.take (k + 1)) := HS.out.2 he
        clear he HS
        go_wp2_with fail
        refine wp_region_quiet_below (by kernel_rfl) (by kernel_rfl) ?_
        repeat (any_goals (go_big_quiet_step (fail)))
        refine wpQuiet_nil ?_
        rintro w1 ⟨p, rfl⟩
        go_wp2_with fail
        go_roundw
        case rel => exact ⟨k + 1, by omega, by go_num, HN, hB.trans ((below_regrown _ _ _).mono hB.size)⟩
        case measure => simp [intOf]; omega
      · have he' : (xs[k] != ys[k]) = true := by simpa using he
        have HN : Hid (decide (xs = ys) = false) := by
          unfold Hid
          simp only [decide_eq_false_iff_not]
          rintro rfl
          exact he rfl
        clear he HS
        go_wp2_with fail
        refine wp_region_quiet_below (by kernel_rfl) (by kernel_rfl) ?_
        repeat (any_goals (go_big_quiet_step (fail)))
        refine wpQuiet_nil ?_
        rintro w1 ⟨p, rfl⟩
        go_wp2_with fail
        go_ret
        exact ⟨ret_bool HN.out.symm, hB.trans ((below_regrown _ _ _).mono hB.size)⟩
    · go_wp2_with fail
      go_ret
      have : xs = ys := by
        have h1 := HR.out
        rwa [List.take_of_length_le (by omega), List.take_of_length_le (by have := hl.out; omega)] at h1
      exact ⟨ret_bool (by simp [this]), hB⟩

/-- What has been marked so far. -/
def MarkRel (b off : Nat) (m : Int) (xs : List Int) (k : Nat) (w wr : World) : Prop :=
  (∀ j (hj : j < xs.length), cellIs true wr b (off + j) (.int .i64 (if j < k then m + j else xs[j]))) ∧ Chg [b] w wr
theorem MarkRel.step {b off : Nat} {m : Int} {xs : List Int} {k : Nat} {w wr : World} (h : MarkRel b off m xs k w wr) (hk : k < xs.length) : MarkRel b off m xs (k + 1) w (wr.setCell ⟨b, off + k, none⟩ (.int .i64 (m + k))) := by
  refine ⟨fun j hj => ?_, h.2.set (by simp) _⟩
  have hc := h.1 j hj
  by_cases e : j = k
  · subst e
    refine ⟨?_, fun _ => ?_⟩
    · rw [if_pos (by omega)]; exact World.cell?_setCell_same' _ _ _ (by rw [hc.1]; rfl)
    · rw [World.frozen?_setCell]; exact hc.2 rfl
  · refine ⟨?_, fun _ => ?_⟩
    · rw [World.cell?_setCell_other wr _ _ _ (by simp only [ne_eq, Addr.mk.injEq]; omega)]
      rw [hc.1]
      by_cases h1 : j < k
      · rw [if_pos h1, if_pos (by omega)]
      · rw [if_neg h1, if_neg (by omega)]
    · rw [World.frozen?_setCell]; exact hc.2 rfl

def MarkPost {α : Type} (T : Ty α) (w : World) (v : Value) (k : Int) (ys : List α) (F : List Nat) (e : Ending) (w' : World) : Prop :=
  e = .returned (.int .i64 k) ∧ T.row true w' v ys F ∧ Chg F w w'

set_option maxHeartbeats 1000000 in
theorem markIntS_any (v : Value) (m : Int) (xs : List Int) (F : List Nat) (w : World) (hx : Ty.int.row true w v xs F) (h0 : 0 ≤ m) (h1 : m + xs.length ≤ 1000000000000000000) :
    Calls Try.prog 24 #[v, .int .i64 m] w (MarkPost Ty.int w v (m + xs.length) (marks m xs.length) F) := by
  obtain ⟨a, c, rfl, hx1, hx2, _, hx3⟩ := row_int hx
  rcases hx3 with ⟨rfl, rfl⟩ | ⟨hxn, b, off, rfl, rfl, hxc⟩
  · go_enter Try.func24, Try.ntmps24
    go_wp2_with fail
    refine wp_loop_rounds 1 ?_
    rw [rounds_succ]
    go_wp2_with fail
    go_ret
    exact ⟨ret_int (by simp), Ty.row_nil _ _ _ _ _ hx2, Chg.refl _ _⟩
  go_enter Try.func24, Try.ntmps24
  go_wp2_with fail
  go_loopw [1, 5] (fun n i wr => ∃ k : Nat, k ≤ xs.length ∧ i = .int .i64 k ∧ n = .int .i64 (m + k) ∧ MarkRel b off m xs k w wr) (fun _ i _ => xs.length - (intOf i).toNat)
  case atStart => exact ⟨0, Nat.zero_le _, rfl, by simp, fun j hj => by simpa using hxc j hj, Chg.refl _ _⟩
  case round =>
    obtain ⟨k, hk, rfl, rfl, HR⟩ := hrel
    by_cases hlt : k < xs.length
    · have k0 := (HR.1 k hlt).1
      have k1 := (HR.1 k hlt).2 rfl
      have HN := HR.step hlt
      replace HN := (show Hid (MarkRel b off m xs (k + 1) w (wr.setCell ⟨b, off + k, none⟩ (.int .i64 (m + k)))) from HN)
      clear HR
      rw [if_neg (by omega)] at k0
      go_wp2_with fail
      go_roundw
      case rel => exact ⟨k + 1, by omega, by go_num, by go_num, HN.out⟩
      case measure => simp [intOf]; omega
    · obtain rfl : k = xs.length := by omega
      replace HR := (show Hid (MarkRel b off m xs xs.length w wr) from HR)
      go_wp2_with fail
      go_ret
      refine ⟨rfl, ?_, HR.out.2⟩
      have hm := marks_length m xs.length
      have := row_int_mk (wr := true) (w := wr) (b := b) (off := off) (cap := c) (xs := marks m xs.length) (marks_i64 h0 h1) (by omega) hx2 (by intro e; rw [e] at hm; simp at hm; exact hxn (List.length_eq_zero_iff.1 hm.symm)) (fun j hj => by
        have hj' : j < xs.length := by omega
        have := HR.out.1 j hj'
        rw [if_pos hj'] at this
        rw [marks_get]; exact this)
      rw [hm] at this
      exact this

/-- What 'held' gives: past the last mark, or -1. -/
def heldOf (xs : List Int) (m : Int) : Int := if xs = marks m xs.length then m + xs.length else -1
theorem marks_snoc (m : Int) (n : Nat) : marks m (n + 1) = marks m n ++ [m + n] := by simp [marks, List.range_succ]

set_option maxHeartbeats 1000000 in
theorem heldIntS_any (v : Value) (m : Int) (xs : List Int) (F : List Nat) (w : World) (hx : Ty.int.row false w v xs F) (h0 : 0 ≤ m) (h1 : m + xs.length ≤ 1000000000000000000) :
    Calls Try.prog 25 #[v, .int .i64 m] w fun e w' => e = .returned (.int .i64 (heldOf xs m)) ∧ w = w' := by
  obtain ⟨a, c, rfl, hx1, hx2, _, hx3⟩ := row_int hx
  rcases hx3 with ⟨rfl, rfl⟩ | ⟨hxn, b, off, rfl, rfl, hxc⟩
  · go_enter Try.func25, Try.ntmps25
    go_wp2_with fail
    refine wp_loop_rounds 1 ?_
    rw [rounds_succ]
    go_wp2_with fail
    go_ret
    exact ⟨ret_int (by simp [heldOf, marks]), rfl⟩
  go_enter Try.func25, Try.ntmps25
  go_wp2_with fail
  go_loop [1, 5] (fun n i => ∃ k : Nat, k ≤ xs.length ∧ i = .int .i64 k ∧ n = .int .i64 (m + k) ∧ Hid (xs.take k = marks m k)) (fun _ i => xs.length - (intOf i).toNat)
  case atStart => exact ⟨0, Nat.zero_le _, rfl, by simp, by simp [Hid, marks]⟩
  case round =>
    obtain ⟨k, hk, rfl, rfl, HR⟩ := hrel
    by_cases hlt : k < xs.length
    · have k0 := (hxc k hlt).1
      by_cases he : xs[k] = m + k
      · have he' : (xs[k] != m + k) = false := by simpa using he
        have HN : Hid (xs.take (k + 1) = marks m (k + 1)) := by
          unfold Hid; rw [List.take_succ_eq_append_getElem hlt, HR.out, marks_snoc, he]
        clear he
        go_wp2_with fail
        go_round
        case rel => exact ⟨k + 1, by omega, by go_num, by go_num, HN⟩
        case measure => simp [intOf]; omega
      · have he' : (xs[k] != m + k) = true := by simpa using he
        have HN : Hid (heldOf xs m = -1) := by
          unfold Hid heldOf
          rw [if_neg]
          intro e
          apply he
          have h2 := marks_get m xs.length k (by rw [marks_length]; exact hlt)
          rw [← h2]
          exact List.getElem_of_eq e hlt
        clear he
        go_wp2_with fail
        go_ret
        exact ⟨ret_int HN.out.symm, rfl⟩
    · obtain rfl : k = xs.length := by omega
      have HN : Hid (heldOf xs m = m + xs.length) := by
        unfold Hid heldOf
        have := HR.out
        rw [List.take_length] at this
        rw [if_pos this]
      go_wp2_with fail
      go_ret
      exact ⟨ret_int HN.out.symm, rfl⟩

/-- What 'to' gives: a row of its own with the same data. -/
def OwnPost {α : Type} (T : Ty α) (w : World) (xs : List α) (e : Ending) (w' : World) : Prop :=
  ∃ v F, e = .returned v ∧ T.row true w' v xs F ∧ F.Nodup ∧ (∀ b ∈ F, w.heap.size ≤ b) ∧ Below w.heap.size w w'

theorem infoInt : (Try.prog.info? 3).map (fun i => (i.zero, i.size, i.bytes)) = some (some (.int .i64 0), 1, 8) := by kernel_rfl

/-- What has been copied so far. -/
def CopyRel (xs : List Int) (k : Nat) (w wr : World) : Prop :=
  (∀ j (hj : j < xs.length), cellIs true wr w.heap.size (0 + j) (.int .i64 (if j < k then xs[j] else 0))) ∧ Below w.heap.size w wr
theorem CopyRel.step {xs : List Int} {k : Nat} {w wr : World} (h : CopyRel xs k w wr) (hk : k < xs.length) : CopyRel xs (k + 1) w (wr.setCell ⟨w.heap.size, k, none⟩ (.int .i64 xs[k])) := by
  refine ⟨fun j hj => ?_, h.2.setCell (by simp) _⟩
  have hc := h.1 j hj
  by_cases e : j = k
  · subst e
    refine ⟨?_, fun _ => ?_⟩
    · rw [if_pos (by omega), Nat.zero_add]; exact World.cell?_setCell_same' _ _ _ (by have := hc.1; rw [Nat.zero_add] at this; rw [this]; rfl)
    · rw [World.frozen?_setCell]; exact hc.2 rfl
  · refine ⟨?_, fun _ => ?_⟩
    · rw [World.cell?_setCell_other wr _ _ _ (by simp only [ne_eq, Addr.mk.injEq]; omega)]
      rw [hc.1]
      by_cases h1 : j < k
      · rw [if_pos h1, if_pos (by omega)]
      · rw [if_neg h1, if_neg (by omega)]
    · rw [World.frozen?_setCell]; exact hc.2 rfl

theorem hown_cell {w : World} {g n : Nat} {cur : Array Value} {e : TypeId} {fr : Nat × Nat} {cs : List Value} (hh : w.heap[g]? = some (.cells cur e fr)) (ht : cur.toList.take n = cs) {j : Nat} (hj : j < n) : w.cell? ⟨g, j, none⟩ = cs[j]? := by
  subst ht
  simp [World.cell?, hh, hj]

set_option maxHeartbeats 1000000 in
theorem toIntS_any (v : Value) (xs : List Int) (F : List Nat) (w : World) (hx : Ty.int.row false w v xs F) (h1 : xs.length ≤ 1000000000) :
    Calls Try.prog 11 #[v] w (OwnPost Ty.int w xs) := by
  obtain ⟨i0, hi, hz0, hz1, hz2⟩ := info_parts infoInt
  obtain ⟨a, c, rfl, hx1, hx2, hx64, hx3⟩ := row_int hx
  go_enter Try.func11, Try.ntmps11
  go_wp2_with (at_make; refine wpList_make_full _ rfl _ _ 25 rfl w.heap.size 3 i0 (.int .i64 0) 1 Try.underlying25 hi hz0 hz1 .i64 .i64 _ _ xs.length rfl rfl rfl rfl ?m1 ?m2 ?m3 ?_)
  case m1 => rw [hz2]; omega
  case m2 => unfold maxLen; omega
  case m3 => exact Nat.le_refl _
  intro w1 hown hgrow
  have hst : Hid (CopyRel xs 0 w w1 ∧ w.heap.size < w1.heap.size) := by
    obtain ⟨hl, ⟨e, _⟩ | ⟨g, cap, cur, e, hg, hh, hn, hm, hcs, ht⟩⟩ := hown
    · cases e
    · simp only [Value.slice.injEq, Option.some.injEq, Addr.mk.injEq] at e
      obtain ⟨⟨rfl, _⟩, _, rfl⟩ := e
      have hlt : w.heap.size < w1.heap.size := by
        rcases Nat.lt_or_ge w.heap.size w1.heap.size with h | h
        · exact h
        · simp [Array.getElem?_eq_none h] at hh
      refine ⟨⟨fun j hj => ⟨?_, fun _ => by simp [World.frozen?, hh]⟩, (bb w).grown hgrow (Nat.le_refl _) (fun k hk => by cases hk)⟩, hlt⟩
      rw [if_neg (by omega)]
      have h2 := hown_cell hh ht (j := j) (by omega)
      rw [toList_madeCells_one, List.getElem?_replicate, if_pos (by omega)] at h2
      simpa using h2
  clear hown hgrow
  go_wp2_with fail
  go_loopw [4] (fun i wr => ∃ k : Nat, k ≤ xs.length ∧ i = .int .i64 k ∧ CopyRel xs k w wr) (fun i _ => xs.length - (intOf i).toNat)
  case atStart => exact ⟨0, Nat.zero_le _, rfl, hst.out.1⟩
  case round =>
    obtain ⟨k, hk, rfl, HR⟩ := hrel
    by_cases hlt : k < xs.length
    · rcases hx3 with ⟨rfl, rfl⟩ | ⟨hxn, b, off, rfl, rfl, hxc⟩
      · exact absurd hlt (by simp)
      have k0 := (HR.1 k hlt).1
      have k1 := (HR.1 k hlt).2 rfl
      have k2 : wr.cell? ⟨b, off + k, none⟩ = some (.int .i64 xs[k]) := ((hxc k hlt).keep (HR.2.block b (hxc k hlt).lt)).1
      have HN := HR.step hlt
      replace HN := (show Hid (CopyRel xs (k + 1) w (wr.setCell ⟨w.heap.size, k, none⟩ (.int .i64 xs[k]))) from HN)
      clear HR
      rw [if_neg (by omega), Nat.zero_add] at k0
      rw [Nat.zero_add] at k1
      go_wp2_with fail
      go_roundw
      case rel => exact ⟨k + 1, by omega, by go_num, HN.out⟩
      case measure => simp [intOf]; omega
    · obtain rfl : k = xs.length := by omega
      replace HR := (show Hid (CopyRel xs xs.length w wr) from HR)
      go_wp2_with fail
      go_ret
      by_cases hne : xs = []
      · subst hne
        exact ⟨_, [], rfl, Ty.row_nil _ _ _ _ _ (by simp), by simp, by simp, HR.out.2⟩
      · exact ⟨_, [w.heap.size], rfl, row_int_mk hx64 (Nat.le_refl _) (by omega) hne (fun j hj => by have := HR.out.1 j hj; rw [if_pos hj] at this; exact this), by simp, by simp, HR.out.2⟩
end Go.Proofs.Ytebpknekaljgnaa
