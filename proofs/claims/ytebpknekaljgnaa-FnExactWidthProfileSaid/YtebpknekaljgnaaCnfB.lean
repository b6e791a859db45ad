/- Contracts: rows of rows of ints and Cnfs in the laws. -/
import Derived.Test.YtebpknekaljgnaaCnfA
import Derived.Test.YtebpknekaljgnaaMemB
import Derived.Deep.RegionHeld3
namespace Go.Proofs.Ytebpknekaljgnaa
open Go.RowKit

set_option maxHeartbeats 400000 in
theorem szIntS_at (a : Option Addr) (l c : Nat) (n : Int) (w : World) (h0 : 0 ≤ n) (h1 : n ≤ 1048576) (hl : l ≤ 9223372036854775807) :
    Calls Try.prog 44 #[.slice a l c, .int .i64 n] w fun e w' => e = .returned (.int .i64 (if n < (l : Int) then -1 else n - l)) ∧ w = w' := by
  go_enter Try.func44, Try.ntmps44
  go_wp2
  all_goals go_ret
  all_goals exact ⟨rfl, rfl⟩

/-- The number of numbers in the first k rows. -/
def sumTo (xss : List (List Int)) (k : Nat) : Nat := ((xss.take k).map List.length).sum
theorem sumTo_succ (xss : List (List Int)) (k : Nat) (hk : k < xss.length) : sumTo xss (k + 1) = sumTo xss k + xss[k].length := by
  unfold sumTo; rw [List.take_succ_eq_append_getElem hk, List.map_append, List.sum_append]; simp
theorem sumTo_all (xss : List (List Int)) : sumTo xss xss.length = (xss.map List.length).sum := by unfold sumTo; rw [List.take_length]
theorem sumTo_le (xss : List (List Int)) (k : Nat) : sumTo xss k ≤ (xss.map List.length).sum := by
  unfold sumTo
  conv => rhs; rw [← List.take_append_drop k xss]
  rw [List.map_append, List.sum_append]; omega
theorem sumTo_zero (xss : List (List Int)) : sumTo xss 0 = 0 := rfl
theorem get_len_le (xss : List (List Int)) (k : Nat) (hk : k < xss.length) : xss[k].length ≤ (xss.map List.length).sum := by
  have := sumTo_le xss (k + 1)
  rw [sumTo_succ xss k hk] at this; omega

/-- What is left, or -1. -/
def szOf (n : Int) (b : Nat) : Int := if n < (b : Int) then -1 else n - b
theorem szOf_no {n : Int} {b : Nat} (h : n < (b : Int)) : szOf n b = -1 := if_pos h
theorem szOf_yes {n : Int} {b : Nat} (h : (b : Int) ≤ n) : szOf n b = n - b := if_neg (by omega)

set_option maxHeartbeats 1000000 in
theorem szIntSS_any (v : Value) (xss : List (List Int)) (F : List Nat) (n : Int) (w : World) (hx : (Ty.slice Ty.int).row false w v xss F) (h0 : 0 ≤ n) (h1 : n ≤ 1048576) :
    Calls Try.prog 26 #[v, .int .i64 n] w fun e w' => e = .returned (.int .i64 (szOf n (bulk xss))) ∧ w = w' := by
  obtain ⟨a, c, rfl, hx1, hx2, hx3⟩ := row_slices hx
  by_cases hb : n < (xss.length : Int)
  · have hd : Hid (szOf n (bulk xss) = -1) := by unfold Hid bulk; exact szOf_no (by omega)
    rw [hd.out]
    go_enter Try.func26, Try.ntmps26
    go_wp2_with fail
    go_ret
    exact ⟨rfl, rfl⟩
  have hb' : 0 ≤ n - xss.length := by omega
  have hn1 : (xss.length : Int) ≤ 1048576 := by omega
  go_enter Try.func26, Try.ntmps26
  go_wp2_with fail
  go_loop [1, 5] (fun m i => ∃ (k : Nat) (z : Int), k ≤ xss.length ∧ i = .int .i64 k ∧ m = .int .i64 z ∧ Hid (z = n - xss.length - sumTo xss k) ∧ 0 ≤ z ∧ z ≤ 1048576) (fun _ i => xss.length - (intOf i).toNat)
  case atStart => exact ⟨0, n - xss.length, Nat.zero_le _, rfl, rfl, by simp [Hid, sumTo_zero], hb', by omega⟩
  case round =>
    obtain ⟨k, z, hk, rfl, rfl, HZ, hz0, hz1⟩ := hrel
    by_cases hlt : k < xss.length
    · rcases hx3 with ⟨rfl, rfl⟩ | ⟨hxn, b, off, rfl, _, hxc⟩
      · exact absurd hlt (by simp)
      obtain ⟨u, Fk, hc, hr, _⟩ := hxc k hlt
      obtain ⟨ua, uc, rfl, hu1, hu2⟩ := Ty.row_len hr
      have k0 := hc.1
      have HS : Hid (sumTo xss (k + 1) = sumTo xss k + xss[k].length) := sumTo_succ xss k hlt
      have HL : Hid (sumTo xss (k + 1) ≤ (xss.map List.length).sum) := sumTo_le _ _
      by_cases hs : z < (xss[k].length : Int)
      · have HF : Hid (szOf n (bulk xss) = -1) := by
          unfold Hid bulk
          have h1 := HS.out; have h2 := HL.out; have h3 := HZ.out
          exact szOf_no (by omega)
        go_wp2_with (go_at_call 44; refine (szIntS_at _ _ _ _ _ (by assumption) (by assumption) (by omega)).mono ?_; rintro e w1 ⟨rfl, rfl⟩; rw [if_pos (by assumption)])
        go_ret
        exact ⟨ret_int HF.out.symm, rfl⟩
      · have hs' : 0 ≤ z - xss[k].length := by omega
        go_wp2_with (go_at_call 44; refine (szIntS_at _ _ _ _ _ (by assumption) (by assumption) (by omega)).mono ?_; rintro e w1 ⟨rfl, rfl⟩; rw [if_neg (by omega)])
        go_round
        case rel => exact ⟨k + 1, z - xss[k].length, by omega, by go_num, rfl, by unfold Hid; have h1 := HS.out; have h3 := HZ.out; omega, hs', by omega⟩
        case measure => simp [intOf]; omega
    · obtain rfl : k = xss.length := by omega
      have HF : Hid (szOf n (bulk xss) = z) := by
        unfold Hid bulk
        have h3 := HZ.out
        rw [sumTo_all] at h3
        rw [szOf_yes (by omega)]; omega
      go_wp2_with fail
      go_ret
      exact ⟨ret_int HF.out.symm, rfl⟩

theorem infoRow : (Try.prog.info? 25).map (fun i => (i.zero, i.size, i.bytes)) = some (some (.slice none 0 0), 1, 24) := by kernel_rfl

set_option maxHeartbeats 1000000 in
theorem toIntSS_any (v : Value) (xss : List (List Int)) (F : List Nat) (w : World) (hx : (Ty.slice Ty.int).row false w v xss F) (h1 : bulk xss ≤ 100000000) :
    Calls Try.prog 32 #[v] w (OwnPost (Ty.slice Ty.int) w xss) := by
  obtain ⟨i0, hi, hz0, hz1, hz2⟩ := info_parts infoRow
  obtain ⟨a, c, rfl, hx1, hx2, hx3⟩ := row_slices hx
  have hb1 : xss.length ≤ 100000000 := by unfold bulk at h1; omega
  have hb2 : (xss.map List.length).sum ≤ 100000000 := by unfold bulk at h1; omega
  clear h1
  go_enter Try.func32, Try.ntmps32
  go_wp2_with (at_make; refine wpList_make_full _ rfl _ _ 22 rfl w.heap.size 25 i0 (.slice none 0 0) 1 Try.underlying22 hi hz0 hz1 .i64 .i64 _ _ xss.length rfl rfl rfl rfl ?m1 ?m2 ?m3 ?_)
  case m1 => rw [hz2]; omega
  case m2 => unfold maxLen; omega
  case m3 => exact Nat.le_refl _
  intro w1 hown hgrow
  have hst : Hid (CopyAll Ty.int xss 0 w w1) := by
    obtain ⟨hl, ⟨e, _⟩ | ⟨g, cap, cur, e, hg, hh, hn, hm, hcs, ht⟩⟩ := hown
    · cases e
    · simp only [Value.slice.injEq, Option.some.injEq, Addr.mk.injEq] at e
      obtain ⟨⟨rfl, _⟩, _, rfl⟩ := e
      have hlt : w.heap.size < w1.heap.size := by
        rcases Nat.lt_or_ge w.heap.size w1.heap.size with h | h
        · exact h
        · simp [Array.getElem?_eq_none h] at hh
      refine ⟨[], [], by exact ⟨rfl, rfl⟩, by simp, by simp, fun j hj => ⟨none, 0, 0, ?_, by simp [World.frozen?, hh], fun h => absurd h (by omega)⟩, (bb w).grown hgrow (Nat.le_refl _) (fun k hk => by cases hk), hlt⟩
      have h2 := hown_cell hh ht (j := j) (by omega)
      rw [toList_madeCells_one, List.getElem?_replicate, if_pos (by omega)] at h2
      exact h2
  clear hown hgrow
  go_wp2_with fail
  go_loopw [4] (fun i wr => ∃ k : Nat, k ≤ xss.length ∧ i = .int .i64 k ∧ CopyAll Ty.int xss k w wr) (fun i _ => xss.length - (intOf i).toNat)
  case atStart => exact ⟨0, Nat.zero_le _, rfl, hst.out⟩
  case round =>
    obtain ⟨k, hk, rfl, HR⟩ := hrel
    by_cases hlt : k < xss.length
    · rcases hx3 with ⟨rfl, rfl⟩ | ⟨hxn, b, off, rfl, _, hxc⟩
      · exact absurd hlt (by simp)
      obtain ⟨u, Fk, hc, hr, _⟩ := hxc k hlt
      have hBe : Below w.heap.size w wr := by obtain ⟨_, _, _, _, _, _, hB, _⟩ := HR; exact hB
      have hr' := Ty.row_below hr hBe (Ty.row_lt hr)
      have k2 := (hc.keep (hBe.block b hc.lt)).1
      have hlen := get_len_le xss k hlt
      replace HR := (show Hid (CopyAll Ty.int xss k w wr) from HR)
      have h00 : ∃ a n c, wr.cell? ⟨w.heap.size, k, none⟩ = some (.slice a n c) ∧ wr.frozen? ⟨w.heap.size, k, none⟩ = false := by
        obtain ⟨_, _, _, _, _, hc, _, _⟩ := HR.out
        obtain ⟨a, n, c, h1, h2, _⟩ := hc k hlt
        exact ⟨a, n, c, h1, h2⟩
      have hws : w.heap.size < wr.heap.size := by obtain ⟨_, _, _, _, _, _, _, h⟩ := HR.out; exact h
      obtain ⟨za, zn, zc, z0, z1⟩ := h00
      obtain ⟨ua, uc, rfl, hu1, hu2⟩ := Ty.row_len hr
      go_wp2_with fail
      refine (toIntS_any _ xss[k] Fk _ hr' (by omega)).mono ?_
      rintro e w2 ⟨v', F2, rfl, hv', hn2, hF2, hb2⟩
      obtain ⟨va, vc, rfl, hv1, hv2⟩ := Ty.row_len hv'
      have y0 := ((bcell hb2).1 _ k hws).trans z0
      have y1 := ((bcell hb2).2 _ k hws).trans z1
      have HN := HR.out.step hlt hv' hn2 hF2 hb2
      replace HN := (show Hid (CopyAll Ty.int xss (k + 1) w (w2.setCell ⟨w.heap.size, k, none⟩ (.slice va xss[k].length vc))) from HN)
      clear HR
      go_wp2_with fail
      go_roundw
      case rel => exact ⟨k + 1, by omega, by go_num, HN.out⟩
      case measure => simp [intOf]; omega
    · obtain rfl : k = xss.length := by omega
      replace HR := (show Hid (CopyAll Ty.int xss xss.length w wr) from HR)
      go_wp2_with fail
      go_ret
      obtain ⟨F', h2, h3, h4⟩ := HR.out.done (by omega)
      obtain ⟨_, _, _, _, _, _, hB, _⟩ := HR.out
      exact ⟨_, F', rfl, h2, h3, h4, hB⟩

set_option maxHeartbeats 1000000 in
theorem eqIntSS_same (v u : Value) (xss : List (List Int)) (F G : List Nat) (w : World) (hx : (Ty.slice Ty.int).row false w v xss F) (hy : (Ty.slice Ty.int).row false w u xss G) :
    Calls Try.prog 37 #[v, u] w fun e w' => e = .returned (.bool true) ∧ Below w.heap.size w w' := by
  obtain ⟨a, c, rfl, hx1, hx2, hx3⟩ := row_slices hx
  obtain ⟨a', c', rfl, hy1, hy2, hy3⟩ := row_slices hy
  go_enter Try.func37, Try.ntmps37
  go_wp2_with fail
  go_loopw [5] (fun i wr => ∃ k : Nat, k ≤ xss.length ∧ i = .int .i64 k ∧ Below w.heap.size w wr) (fun i _ => xss.length - (intOf i).toNat)
  case atStart => exact ⟨0, Nat.zero_le _, rfl, bb _⟩
  case round =>
    obtain ⟨k, hk, rfl, hB⟩ := hrel
    by_cases hlt : k < xss.length
    · rcases hx3 with ⟨rfl, rfl⟩ | ⟨hxn, b, off, rfl, _, hxc⟩
      · exact absurd hlt (by simp)
      rcases hy3 with ⟨rfl, rfl⟩ | ⟨hyn, b', off', rfl, _, hyc⟩
      · exact absurd hlt (by simp)
      obtain ⟨p, Fk, hc, hr, _⟩ := hxc k hlt
      obtain ⟨q, Gk, hd, hs, _⟩ := hyc k hlt
      have k0 := (hc.keep (hB.block b hc.lt)).1
      have k1 := (hd.keep (hB.block b' hd.lt)).1
      have z0 : b < wr.heap.size := World.block_lt_of_cell? _ _ k0
      have z1 : b' < wr.heap.size := World.block_lt_of_cell? _ _ k1
      have hr' := Ty.row_below hr hB (Ty.row_lt hr)
      have hs' := Ty.row_below hs hB (Ty.row_lt hs)
      obtain ⟨pa, pc, rfl, _, _⟩ := Ty.row_len hr
      obtain ⟨qa, qc, rfl, _, _⟩ := Ty.row_len hs
      have HE : Hid (∀ w2, Below wr.heap.size wr w2 → Calls Try.prog 14 #[.slice pa xss[k].length pc, .slice qa xss[k].length qc] w2 fun e w' => e = .returned (.bool true) ∧ Below w2.heap.size w2 w') := by
        intro w2 h2
        have := eqIntS_any _ _ xss[k] xss[k] Fk Gk w2 (Ty.row_grow hr' h2) (Ty.row_grow hs' h2)
        simpa using this
      clear hr hs hr' hs' hxc hyc hc hd
      go_wp2_with fail
      go_region_held3 (fun w' => w'.cell? ⟨b, off + k, none⟩ = some (.slice pa xss[k].length pc) ∧ w'.cell? ⟨b', off' + k, none⟩ = some (.slice qa xss[k].length qc)) (go_keep)
        (first | (go_at_call 14; (with_reducible refine (HE.out _ (by repeat (first | exact bb _ | assumption | refine bal ?_ _ | refine bdr ?_ | refine bdn ?_ _ | refine bst ?_ (by simp <;> omega) _ | refine btr ?_ (by assumption)))).mono ?_); rintro e w2 ⟨rfl, hb2⟩; have q0 := (fun o => (bcell hb2).1 b o z0); have q1 := (fun o => (bcell hb2).1 b' o z1)))
      all_goals
        go_wp2_with fail
        go_roundw
        case rel => exact ⟨k + 1, by omega, by go_num, (by repeat (first | exact bb _ | assumption | refine bal ?_ _ | refine bdr ?_ | refine bdn ?_ _ | refine bst ?_ (by simp <;> omega) _ | refine btr ?_ (by assumption)))⟩
        case measure => simp [intOf]; omega
    · go_wp2_with fail
      go_ret
      exact ⟨rfl, hB⟩
end Go.Proofs.Ytebpknekaljgnaa
