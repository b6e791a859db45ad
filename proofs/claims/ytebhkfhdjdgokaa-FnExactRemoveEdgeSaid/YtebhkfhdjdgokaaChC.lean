/- Contracts: rows of pairs of ints marked and held; charged graphs in the law. -/
import Derived.Test.YtebhkfhdjdgokaaChB
import Derived.Test.YtebhkfhdjdgokaaSepA
namespace Go.Proofs.Ytebhkfhdjdgokaa
open Go.RowKit

/-- Pairs, one behind the other. -/
def pairs : List (Int × Int) → List Int
  | [] => []
  | x :: xs => x.1 :: x.2 :: pairs xs
theorem pairs_len : ∀ xs, (pairs xs).length = 2 * xs.length
  | [] => rfl
  | x :: xs => by simp only [pairs, List.length_cons, pairs_len xs]; omega
theorem pairs_fst : ∀ (xs : List (Int × Int)) (k : Nat) (h : k < xs.length), (pairs xs)[2 * k]? = some xs[k].1
  | x :: xs, 0, _ => rfl
  | x :: xs, k + 1, h => by
    rw [show 2 * (k + 1) = 2 * k + 1 + 1 by omega]
    simp only [pairs, List.getElem?_cons_succ, List.getElem_cons_succ]
    exact pairs_fst xs k (by simpa using h)
theorem pairs_snd : ∀ (xs : List (Int × Int)) (k : Nat) (h : k < xs.length), (pairs xs)[2 * k + 1]? = some xs[k].2
  | x :: xs, 0, _ => rfl
  | x :: xs, k + 1, h => by
    rw [show 2 * (k + 1) + 1 = 2 * k + 1 + 1 + 1 by omega]
    simp only [pairs, List.getElem?_cons_succ, List.getElem_cons_succ]
    exact pairs_snd xs k (by simpa using h)
/-- Pairs with marks. -/
def marksP (m : Int) (n : Nat) : List (Int × Int) := (List.range n).map fun i => (m + (2 * i : Nat), m + (2 * i + 1 : Nat))
theorem marksP_length (m : Int) (n : Nat) : (marksP m n).length = n := by simp [marksP]
theorem marksP_get (m : Int) (n k : Nat) (h : k < (marksP m n).length) : (marksP m n)[k] = (m + (2 * k : Nat), m + (2 * k + 1 : Nat)) := by simp [marksP]
theorem marksP_good {m : Int} {n : Nat} (h0 : 0 ≤ m) (h1 : m + 2 * n ≤ 1000000000000000000) : ∀ x ∈ marksP m n, tmGood x := by
  intro x hx
  simp only [marksP, List.mem_map, List.mem_range] at hx
  obtain ⟨i, hi, rfl⟩ := hx
  exact ⟨⟨by show _ ≤ m + _; omega, by show m + _ ≤ _; omega⟩, ⟨by show _ ≤ m + _; omega, by show m + _ ≤ _; omega⟩⟩

set_option maxHeartbeats 1000000 in
theorem markIntA2S_any (v : Value) (m : Int) (xs : List (Int × Int)) (F : List Nat) (w : World) (hx : tmTy.row true w v xs F) (h0 : 0 ≤ m) (h1 : m + 2 * xs.length ≤ 1000000000000000000) :
    Calls Try.prog 47 #[v, .int .i64 m] w (MarkPost tmTy w v (m + 2 * xs.length) (marksP m xs.length) F) := by
  obtain ⟨a, c, rfl, hx1, hx2, _, hx3⟩ := row_tm hx
  rcases hx3 with ⟨rfl, rfl⟩ | ⟨hxn, b, off, rfl, rfl, hxc⟩
  · go_enter Try.func47, Try.ntmps47
    go_wp2_with fail
    refine wp_loop_rounds 1 ?_
    rw [rounds_succ]
    go_wp2_with fail
    go_ret
    exact ⟨ret_int (by simp), Ty.row_nil _ _ _ _ _ hx2, Chg.refl _ _⟩
  have hM : MarkRel b off m (pairs xs) 0 w w := by
    refine ⟨fun j hj => ?_, Chg.refl _ _⟩
    rw [if_neg (by omega)]
    rw [pairs_len] at hj
    have hk : j / 2 < xs.length := by omega
    rcases Nat.mod_two_eq_zero_or_one j with e | e
    · have hj2 : j = 2 * (j / 2) := by omega
      have h3 := (hxc (j / 2) hk).1
      have h4 := pairs_fst xs (j / 2) hk
      rw [← hj2, List.getElem?_eq_getElem (by rw [pairs_len]; exact hj)] at h4
      rw [Option.some.inj h4]
      rwa [show off + j / 2 * 2 = off + j by omega] at h3
    · have hj2 : j = 2 * (j / 2) + 1 := by omega
      have h3 := (hxc (j / 2) hk).2
      have h4 := pairs_snd xs (j / 2) hk
      rw [← hj2, List.getElem?_eq_getElem (by rw [pairs_len]; exact hj)] at h4
      rw [Option.some.inj h4]
      rwa [show off + j / 2 * 2 + 1 = off + j by omega] at h3
  have hM := Lib.hid hM
  clear hxc
  have hlen := pairs_len xs
  go_enter Try.func47, Try.ntmps47
  go_wp2_with fail
  go_loopw [1, 5] (fun n i wr => ∃ k : Nat, k ≤ xs.length ∧ i = .int .i64 k ∧ n = .int .i64 (m + (2 * k : Nat)) ∧ Hid (MarkRel b off m (pairs xs) (2 * k) w wr)) (fun _ i _ => xs.length - (intOf i).toNat)
  case atStart => exact ⟨0, Nat.zero_le _, rfl, by simp, hM⟩
  case round =>
    obtain ⟨k, hk, rfl, rfl, HR⟩ := hrel
    by_cases hlt : k < xs.length
    · have k0 := (HR.out.1 (2 * k) (by omega))
      have k1 := (HR.out.1 (2 * k + 1) (by omega))
      have HN := (HR.out.step (k := 2 * k) (by omega)).step (k := 2 * k + 1) (by omega)
      rw [if_neg (by omega)] at k0 k1
      have k0c := k0.1
      have k0f := k0.2 rfl
      have k1c := k1.1
      have k1f := k1.2 rfl
      rw [show off + 2 * k = off + k * 2 by omega] at k0c k0f HN
      rw [show off + (2 * k + 1) = off + k * 2 + 1 by omega] at k1c k1f HN
      rw [show m + ((2 * k + 1 : Nat) : Int) = m + (2 * k : Nat) + 1 by omega, show 2 * k + 1 + 1 = 2 * (k + 1) by omega] at HN
      replace HN := Lib.hid HN
      have hz : m + ((2 * (k + 1) : Nat) : Int) = m + (2 * k : Nat) + 1 + 1 := by omega
      replace hz := Lib.hid hz
      clear HR hM k0 k1
      generalize hq : m + ((2 * k : Nat) : Int) = q at *
      have hq0 : 0 ≤ q := by omega
      have hq1 : q + 2 ≤ 1000000000000000000 := by omega
      clear hq
      go_wp2_with fail
      refine wp_loop_rounds 3 ?_
      rw [rounds_succ]
      go_wp2_with fail
      rw [rounds_succ]
      go_wp2_with fail
      rw [rounds_succ]
      go_wp2_with fail
      go_roundw
      case rel => exact ⟨k + 1, by omega, by go_num, by rw [hz.out], HN⟩
      case measure => simp [intOf]; omega
    · obtain rfl : k = xs.length := by omega
      go_wp2_with fail
      go_ret
      refine ⟨ret_int (by omega), ?_, HR.out.2⟩
      have hm := marksP_length m xs.length
      have := row_flat_mk (n := 2) (enc := tmEnc) (good := tmGood) (hn := fun _ => rfl) (wr := true) (w := wr) (b := b) (off := off) (cap := c) (xs := marksP m xs.length) (marksP_good h0 h1) (by omega) hx2 (by intro e; rw [e] at hm; simp at hm; exact hxn (List.length_eq_zero_iff.1 hm.symm)) (by decide) (fun j hj i u hu => by
        rw [marksP_get] at hu
        rw [hm] at hj
        match i, hu with
        | 0, hu =>
          simp [tmEnc] at hu; subst hu
          have := HR.out.1 (2 * j) (by omega)
          rw [if_pos (by omega)] at this
          rw [show off + (j * 2 + 0) = off + 2 * j by omega]
          simpa using this
        | 1, hu =>
          simp [tmEnc] at hu; subst hu
          have := HR.out.1 (2 * j + 1) (by omega)
          rw [if_pos (by omega)] at this
          rw [show off + (j * 2 + 1) = off + (2 * j + 1) by omega]
          simpa using this
        | i + 2, hu => simp [tmEnc] at hu)
      rw [hm] at this
      exact this

set_option maxHeartbeats 1000000 in
theorem heldIntA2S_same (v : Value) (m : Int) (n : Nat) (F : List Nat) (w : World) (hx : tmTy.row false w v (marksP m n) F) (h0 : 0 ≤ m) (h1 : m + 2 * n ≤ 1000000000000000000) :
    Calls Try.prog 49 #[v, .int .i64 m] w fun e w' => e = .returned (.int .i64 (m + 2 * n)) ∧ w = w' := by
  obtain ⟨a, c, rfl, hx1, hx2, _, hx3⟩ := row_tm hx
  have hl := marksP_length m n
  rw [hl] at hx1
  rw [hl]
  rcases hx3 with ⟨e, rfl⟩ | ⟨hxn, b, off, rfl, rfl, hxc⟩
  · rw [e] at hl
    obtain rfl : n = 0 := hl.symm
    go_enter Try.func49, Try.ntmps49
    go_wp2_with fail
    refine wp_loop_rounds 1 ?_
    rw [rounds_succ]
    go_wp2_with fail
    go_ret
    exact ⟨ret_int (by simp), rfl⟩
  go_enter Try.func49, Try.ntmps49
  go_wp2_with fail
  go_loop [1, 5] (fun z i => ∃ k : Nat, k ≤ n ∧ i = .int .i64 k ∧ z = .int .i64 (m + (2 * k : Nat))) (fun _ i => n - (intOf i).toNat)
  case atStart => exact ⟨0, Nat.zero_le _, rfl, by simp⟩
  case round =>
    obtain ⟨k, hk, rfl, rfl⟩ := hrel
    by_cases hlt : k < n
    · obtain ⟨k0, k1⟩ := hxc k (by rw [hl]; exact hlt)
      rw [marksP_get] at k0 k1
      replace k0 := k0.1
      replace k1 := k1.1
      simp only at k0 k1
      rw [show m + ((2 * k + 1 : Nat) : Int) = m + (2 * k : Nat) + 1 by omega] at k1
      have hz : m + ((2 * (k + 1) : Nat) : Int) = m + (2 * k : Nat) + 1 + 1 := by omega
      replace hz := Lib.hid hz
      clear hxc
      generalize hq : m + ((2 * k : Nat) : Int) = q at *
      have hq0 : 0 ≤ q := by omega
      have hq1 : q + 2 ≤ 1000000000000000000 := by omega
      clear hq
      go_wp2_with fail
      refine wp_loop_rounds 3 ?_
      rw [rounds_succ]
      go_wp2_with fail
      rw [rounds_succ]
      go_wp2_with fail
      rw [rounds_succ]
      go_wp2_with fail
      go_round
      case rel => exact ⟨k + 1, by omega, by go_num, by rw [hz.out]⟩
      case measure => simp [intOf]; omega
    · obtain rfl : k = n := by omega
      go_wp2_with fail
      go_ret
      exact ⟨ret_int (by omega), rfl⟩
end Go.Proofs.Ytebhkfhdjdgokaa
