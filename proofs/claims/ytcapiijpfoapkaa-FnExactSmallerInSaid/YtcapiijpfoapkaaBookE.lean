/- Contracts: rows of strings in the law. -/
import Derived.Test.YtcapiijpfoapkaaBookD
namespace Go.Proofs.Ytcapiijpfoapkaa
open Go.RowKit

def stEnc (s : List UInt8) : List Value := [.string (ms s)]
def stOk (s : List UInt8) : Prop := s.length ≤ 9223372036854775807
abbrev stTy : Ty (List UInt8) := Ty.flat 1 stEnc stOk (fun _ => rfl)
theorem row_st {wr : Bool} {w : World} {v : Value} {xs : List (List UInt8)} {F : List Nat} (h : stTy.row wr w v xs F) :
    ∃ a cap, v = .slice a xs.length cap ∧ xs.length ≤ cap ∧ cap ≤ 9223372036854775807 ∧ (∀ x ∈ xs, stOk x) ∧
      ((xs = [] ∧ F = []) ∨ (xs ≠ [] ∧ ∃ b off, a = some ⟨b, off, none⟩ ∧ F = [b] ∧ ∀ j (hj : j < xs.length), cellIs wr w b (off + j) (.string (ms xs[j])))) := by
  obtain ⟨a, cap, rfl, h1, h2, h3, h4⟩ := row_flat h
  refine ⟨a, cap, rfl, h1, h2, h3, h4.imp id ?_⟩
  rintro ⟨_, hne, b, off, rfl, rfl, hc⟩
  exact ⟨hne, b, off, rfl, rfl, fun j hj => by have := hc j hj 0 _ rfl; rwa [Nat.mul_one, Nat.add_zero] at this⟩
theorem row_st_mk {wr : Bool} {w : World} {b off cap : Nat} {xs : List (List UInt8)} (hg : ∀ x ∈ xs, stOk x) (h1 : xs.length ≤ cap) (h2 : cap ≤ 9223372036854775807) (hne : xs ≠ [])
    (hc : ∀ j (hj : j < xs.length), cellIs wr w b (off + j) (.string (ms xs[j]))) : stTy.row wr w (.slice (some ⟨b, off, none⟩) xs.length cap) xs [b] := by
  refine row_flat_mk hg h1 h2 hne (by decide) fun j hj i u hu => ?_
  match i, hu with
  | 0, hu => cases hu; rw [Nat.mul_one, Nat.add_zero]; exact hc j hj
  | i + 1, hu => simp [stEnc] at hu

set_option maxHeartbeats 1000000 in
theorem eqStringS_same (v u : Value) (xs : List (List UInt8)) (F G : List Nat) (w : World) (hx : stTy.row false w v xs F) (hy : stTy.row false w u xs G) :
    Calls Try.prog 8 #[v, u] w fun e w' => e = .returned (.bool true) ∧ Below w.heap.size w w' := by
  obtain ⟨a, c, rfl, hx1, hx2, _, hx3⟩ := row_st hx
  obtain ⟨a', c', rfl, hy1, hy2, _, hy3⟩ := row_st hy
  go_enter Try.func8, Try.ntmps8
  go_wp2_with fail
  go_loopw [5] (fun i wr => ∃ k : Nat, k ≤ xs.length ∧ i = .int .i64 k ∧ Below w.heap.size w wr) (fun i _ => xs.length - (intOf i).toNat)
  case atStart => exact ⟨0, Nat.zero_le _, rfl, bb _⟩
  case round =>
    obtain ⟨k, hk, rfl, hB⟩ := hrel
    by_cases hlt : k < xs.length
    · rcases hx3 with ⟨rfl, rfl⟩ | ⟨hxn, b, off, rfl, rfl, hxc⟩
      · exact absurd hlt (by simp)
      rcases hy3 with ⟨rfl, rfl⟩ | ⟨hyn, b', off', rfl, rfl, hyc⟩
      · exact absurd hlt (by simp)
      have k0 := cell_regrown ((hxc k hlt).keep (hB.block b (hxc k hlt).lt)).1
      have k2 := cell_regrown ((hyc k hlt).keep (hB.block b' (hyc k hlt).lt)).1
      clear hxc hyc
      go_wp2_with fail
      refine wp_region_quiet_below (by kernel_rfl) (by kernel_rfl) ?_
      repeat (any_goals (go_big_quiet_step (fail)))
      refine wpQuiet_nil ?_
      rintro w1 ⟨p, rfl⟩
      go_wp2_with fail
      go_roundw
      case rel => exact ⟨k + 1, by omega, by go_num, hB.trans ((below_regrown _ _ _).mono hB.size)⟩
      case measure => simp [intOf]; omega
    · go_wp2_with fail
      go_ret
      exact ⟨rfl, hB⟩

/-- Strings with marks. -/
def markSt (m n : Nat) : List (List UInt8) := (List.range n).map fun j => markB (m + j)
theorem markSt_length (m n : Nat) : (markSt m n).length = n := by simp [markSt]
theorem markSt_get (m n j : Nat) (h : j < (markSt m n).length) : (markSt m n)[j] = markB (m + j) := by simp [markSt]
theorem markB_len (n : Nat) (h : n ≤ 1000000000000000000) : (markB n).length ≤ 21 := by have := digs_len n h; simp [markB]; omega
theorem markSt_ok {m n : Nat} (h : m + n ≤ 1000000000000000000) : ∀ x ∈ markSt m n, stOk x := by
  intro x hx
  simp only [markSt, List.mem_map, List.mem_range] at hx
  obtain ⟨j, hj, rfl⟩ := hx
  have h1 := markB_len (m + j) (by omega)
  unfold stOk; omega
def MarkRelS (b off m : Nat) (xs : List (List UInt8)) (k : Nat) (w wr : World) : Prop :=
  (∀ q, q < xs.length → cellIs true wr b (off + q) (.string (ms (if q < k then markB (m + q) else xs.getD q [])))) ∧ Chg [b] w wr
theorem MarkRelS.step {b off m : Nat} {xs : List (List UInt8)} {k : Nat} {w wr w1 : World} (h : MarkRelS b off m xs k w wr) (hb : Below wr.heap.size wr w1) :
    MarkRelS b off m xs (k + 1) w (w1.setCell ⟨b, off + k, none⟩ (.string (ms (markB (m + k))))) := by
  refine ⟨fun q hq => ?_, (h.2.then hb).set (by simp) _⟩
  have hc0 := h.1 q hq
  have hc := hc0.keep (hb.block b hc0.lt)
  by_cases e : q = k
  · subst e
    refine ⟨?_, fun _ => ?_⟩
    · rw [World.cell?_setCell_same' _ _ _ (by rw [hc.1]; rfl)]
      simp
    · rw [World.frozen?_setCell]; exact hc.2 rfl
  · refine ⟨?_, fun _ => ?_⟩
    · rw [World.cell?_setCell_other w1 _ _ _ (by simp only [ne_eq, Addr.mk.injEq]; omega), hc.1]
      by_cases h1 : q < k
      · rw [if_pos h1, if_pos (show q < k + 1 by omega)]
      · rw [if_neg h1, if_neg (show ¬ q < k + 1 by omega)]
    · rw [World.frozen?_setCell]; exact hc.2 rfl

set_option maxRecDepth 100000 in
set_option maxHeartbeats 2000000 in
theorem markStringS_any (v : Value) (m : Nat) (xs : List (List UInt8)) (F : List Nat) (w : World) (hx : stTy.row true w v xs F) (h0 : 0 < m) (h1 : m + xs.length ≤ 1000000000) :
    Calls Try.prog 11 #[v, .int .i64 m] w (MarkPost stTy w v ((m + xs.length : Nat) : Int) (markSt m xs.length) F) := by
  obtain ⟨a, c, rfl, hx1, hx2, hg, hx3⟩ := row_st hx
  rcases hx3 with ⟨rfl, rfl⟩ | ⟨hxn, b, off, rfl, rfl, hxc⟩
  · go_enter Try.func11, Try.ntmps11
    go_wp2_with fail
    refine wp_loop_rounds 1 ?_
    rw [rounds_succ]
    go_wp2_with fail
    go_ret
    exact ⟨ret_int (by simp), Ty.row_nil _ _ _ _ _ hx2, Chg.refl _ _⟩
  have hst : Hid (MarkRelS b off m xs 0 w w) := ⟨fun q hq => by
    rw [if_neg (show ¬ q < 0 by omega), List.getD_eq_getElem?_getD, List.getElem?_eq_getElem hq]
    exact hxc q hq, Chg.refl _ _⟩
  clear hxc hx
  go_enter Try.func11, Try.ntmps11
  go_wp2_with fail
  go_loopw [1, 5] (fun n i wr => ∃ k : Nat, k ≤ xs.length ∧ i = .int .i64 k ∧ n = .int .i64 ((m + k : Nat) : Int) ∧ Hid (MarkRelS b off m xs k w wr)) (fun _ i _ => xs.length - (intOf i).toNat)
  case atStart => exact ⟨0, Nat.zero_le _, rfl, by simp, hst⟩
  case round =>
    obtain ⟨k, hk, rfl, rfl, HR⟩ := hrel
    clear hst
    by_cases hlt : k < xs.length
    · have q0 := HR.out.1 k hlt
      have hbl := q0.lt
      go_wp2_with fail
      refine (markText_any (m + k) _ (by omega) (by omega)).mono ?_
      rintro e w1 ⟨rfl, hb1⟩
      have q1 := q0.keep (hb1.block b hbl)
      have k0 := q1.1
      have k1 := q1.2 rfl
      have R1 := Lib.hid (HR.out.step hb1)
      clear q0 q1 HR hb1 hbl
      go_wp2_with fail
      go_roundw
      case rel => exact ⟨k + 1, by omega, by go_num, by go_num, R1⟩
      case measure => simp [intOf]; omega
    · obtain rfl : k = xs.length := by omega
      have hC := HR.out.2
      have hl := markSt_length m xs.length
      have R : stTy.row true wr (.slice (some ⟨b, off, none⟩) xs.length c) (markSt m xs.length) [b] := by
        have := row_st_mk (wr := true) (w := wr) (b := b) (off := off) (cap := c) (markSt_ok (m := m) (n := xs.length) (by omega)) (by rw [hl]; exact hx1) hx2 (fun e => by rw [e] at hl; exact hxn (List.length_eq_zero_iff.1 hl.symm)) (fun j hj => by
          rw [hl] at hj
          have := HR.out.1 j hj
          rw [if_pos hj] at this
          rw [markSt_get]; exact this)
        rw [hl] at this
        exact this
      replace R := Lib.hid R
      replace hC := Lib.hid hC
      clear HR
      go_wp2_with fail
      go_ret
      exact ⟨rfl, R.out, hC.out⟩

set_option maxRecDepth 100000 in
set_option maxHeartbeats 2000000 in
theorem heldStringS_same (v : Value) (m : Nat) (n : Nat) (F : List Nat) (w : World) (hx : stTy.row false w v (markSt m n) F) (h0 : 0 < m) (h1 : m + n ≤ 1000000000) :
    Calls Try.prog 12 #[v, .int .i64 m] w fun e w' => e = .returned (.int .i64 ((m + n : Nat) : Int)) ∧ Below w.heap.size w w' := by
  obtain ⟨a, c, rfl, hx1, hx2, hg, hx3⟩ := row_st hx
  rw [markSt_length] at hx1 ⊢
  go_enter Try.func12, Try.ntmps12
  go_wp2_with fail
  go_loopw [1, 5] (fun z i wr => ∃ k : Nat, k ≤ n ∧ i = .int .i64 k ∧ z = .int .i64 ((m + k : Nat) : Int) ∧ Below w.heap.size w wr) (fun _ i _ => n - (intOf i).toNat)
  case atStart => exact ⟨0, Nat.zero_le _, rfl, by simp, bb _⟩
  case round =>
    obtain ⟨k, hk, rfl, rfl, hB⟩ := hrel
    by_cases hlt : k < n
    · rcases hx3 with ⟨e, rfl⟩ | ⟨hxn, b, off, rfl, rfl, hxc⟩
      · have h := congrArg List.length e; rw [markSt_length] at h; have h' : n = 0 := h; omega
      have q0 := hxc k (by rw [markSt_length]; exact hlt)
      rw [markSt_get] at q0
      have hbl := Nat.lt_of_lt_of_le q0.lt hB.size
      have k0 : wr.cell? ⟨b, off + k, none⟩ = some (.string (ms (markB (m + k)))) := (q0.keep (hB.block b q0.lt)).1
      clear hxc q0
      have hne1 : ((markB (m + k)) != (markB (m + k))) = false := by simp
      go_wp2_with fail
      refine wp_region_tail_lit (S := (fun w' => w'.cell? ⟨b, off + k, none⟩ = some (.string (ms (markB (m + k)))))) 6 [false, false, false, false, false, false, false] (by kernel_rfl) (by kernel_rfl) (by kernel_rfl) ?_ ?_
      · exact k0
      intro hS
      (refine walkT_take (i := 0) (v := ?_) rfl (by kernel_rfl) (by decide) (by kernel_rfl) (by kernel_rfl) (fun _ _ _ h => h) (Or.inl ⟨by rfl, ?_⟩) (by assumption) ?_; rotate_left; (focus (intro w hSw; (try dsimp only at hSw); go_simp; (try with_reducible rfl); done)); (try simp only [put_rules]))
      (refine walkT_take (i := 1) (v := ?_) rfl (by kernel_rfl) (by decide) (by kernel_rfl) (by kernel_rfl) (fun _ _ _ h => h) (Or.inl ⟨by rfl, ?_⟩) (by assumption) ?_; rotate_left; (focus (intro w hSw; (try dsimp only at hSw); go_simp; (try with_reducible rfl); done)); (try simp only [put_rules]))
      (refine walkT_take (i := 2) (v := ?_) rfl (by kernel_rfl) (by decide) (by kernel_rfl) (by kernel_rfl) (fun _ _ _ h => h) (Or.inl ⟨by rfl, ?_⟩) (by assumption) ?_; rotate_left; (focus (intro w hSw; (try dsimp only at hSw); go_simp; (try with_reducible rfl); done)); (try simp only [put_rules]))
      (refine walkT_take (i := 3) (v := ?_) rfl (by kernel_rfl) (by decide) (by kernel_rfl) (by kernel_rfl) (fun _ _ _ h => h) (Or.inl ⟨by rfl, ?_⟩) (by assumption) ?_; rotate_left; (focus (intro w hSw; (try dsimp only at hSw); go_simp; (try with_reducible rfl); done)); (try simp only [put_rules]))
      (refine walkT_take (i := 4) (v := ?_) rfl (by kernel_rfl) (by decide) (by kernel_rfl) (by kernel_rfl) (fun _ _ _ h => h) (Or.inl ⟨by rfl, ?_⟩) (by assumption) ?_; rotate_left; (focus (intro w hSw; (try dsimp only at hSw); go_simp; (try with_reducible rfl); done)); (try simp only [put_rules]))
      (refine walkT_ready (rs := [5]) (by kernel_rfl) (by simp) (by decide) ?_; refine AllT.cons rfl (fun K hK => ?_) AllT.nil)
      go_simp
      go_at_call 23
      refine (markText_at (m + k) (by omega) (by omega) (by omega)).mono ?_
      rintro e w1 ⟨rfl, hb1⟩
      have j0 := ((bcell hb1).1 b (off + k) hbl).trans k0
      have hB1 : Below w.heap.size w w1 := (by repeat (first | exact bb _ | assumption | refine bal ?_ _ | refine bdr ?_ | refine bdn ?_ _ | refine bst ?_ (by simp <;> omega) _ | refine btr ?_ (by assumption)))
      go_wp2_with fail
      refine hK.out _ _ j0 (fun hS2 => ?_)
      clear hK hS hS2 hb1 k0 hB hbl
      (try simp only [put_rules])
      (refine walkT_done (by kernel_rfl) ?_)
      simp only [List.drop_succ_cons, List.drop_zero]
      go_wp2_with fail
      go_roundw
      case rel => exact ⟨k + 1, by omega, by go_num, by go_num, hB1⟩
      case measure => simp [intOf]; omega
    · obtain rfl : k = n := by omega
      go_wp2_with fail
      go_ret
      exact ⟨rfl, hB⟩
end Go.Proofs.Ytcapiijpfoapkaa
