/- Contracts: the values of a diagram, in the reference. -/
import Derived.Test.YtgcdifabbaoomaaDgM
import Derived.Test.YtgcdifabbaoomaaDgJ
import Derived.Test.YtgcdifabbaoomaaDgC
import Derived.Deep.DeepCutAuto
namespace Go.Proofs.Ytgcdifabbaoomaa
open Go.RowKit

set_option maxRecDepth 100000 in
set_option maxHeartbeats 4000000 in
theorem l26Values_any (n : Nat) (hn : n ≤ 6) (r : Int) (A : Option Addr) (c : Nat) (ns : List Nd) (w : World) (hx : NdAt w A ns) (hl : ns.length ≤ 1000000) (hw : WkN ns) (h0 : 0 ≤ r) (h1 : r ≤ ns.length + 1) :
    Calls Try.prog 49 #[.int .i64 n, dgV r (.slice A ns.length c)] w fun e w' => ∃ B k, e = .returned (.slice B (2 ^ n) k) ∧ Sp w w' [Own 4 1 (.slice B (2 ^ n) k) (2 ^ n) (blV (2 ^ n) (valD r ns))] := by
  obtain ⟨hsh, hp⟩ := pow_small hn
  generalize 2 ^ n = N at *
  have S0 := ((Sp.start w).alloc_box #[.int .i64 r, .slice A ns.length c] 26).own_made 4 1
  simp only [World.size_alloc] at S0
  replace S0 := Lib.hid S0
  have hN := Lib.hid hx
  replace hw := Lib.hid hw
  clear hx
  obtain ⟨i0, hi, hz0, hz1, hz2⟩ := info_parts infoBl
  go_enter Try.func49, Try.ntmps49
  go_wp2_with fail
  go_loopw [5, 6] (fun vo vi wr => ∃ (k : Nat) (B : Option Addr) (cc : Nat), k ≤ N ∧ vi = .int .i64 k ∧ vo = .slice B k cc ∧ Hid (Sp w wr [Own 4 1 (.slice B k cc) k (blV k (valD r ns)), Box w.heap.size 26 #[.int .i64 r, .slice A ns.length c]])) (fun _ vi _ => N - (intOf vi).toNat)
  case atStart => exact ⟨0, _, _, Nat.zero_le _, rfl, rfl, S0⟩
  case round =>
    obtain ⟨k, B, cc, hk, rfl, rfl, HS⟩ := hrel
    clear S0
    by_cases hlt : k < N
    · have c0 := HS.out.cell (i := 1) rfl (o := 0) rfl
      have c1 := HS.out.cell (i := 1) rfl (o := 1) rfl
      have hcall := Lib.hid (specValue_any r k A c ns wr (hN.out.grow HS.out.below) hl hw.out h0 h1 (Nat.lt_of_lt_of_le hlt (Nat.le_trans hp (by decide))))
      have hsn := Lib.hid (blV_snoc k (valD r ns))
      generalize valD r ns k = q at *
      go_wp2_with fail
      refine hcall.out.mono ?_
      rintro e w2 ⟨rfl, hb2⟩
      have HS2 := (HS.out.grow hb2).alloc_box #[.bool q] 4
      have kB := HS2.cell (i := 0) rfl (o := 0) rfl
      replace HS2 := Lib.hid HS2
      clear HS hcall hb2 c0 c1
      go_wp2_with (at_builtin; refine wpList_append_src rfl _ _ rfl Try.underlying75 hi hz0 hz1 hz2 rfl (by decide) _ _ _ rfl (HS2.out.own (i := 1) rfl) _ 1 1 [.bool q] rfl (Src.one kB) (by simp [Value.oneCell']) ?c3 ?c4 ?_)
      case c3 => unfold maxLen; omega
      case c4 => omega
      intro vY wY hownY hgY hatY
      have S4 := (HS2.out.own_push (i := 1) rfl (bb _) hownY hgY (by simpa using hatY)).tail
      obtain ⟨aY, cY, rfl⟩ := own_slice hownY
      rw [← hsn.out] at S4
      have HS3 : Hid (Sp w wY [Own 4 1 (.slice aY (k + 1) cY) (k + 1) (blV (k + 1) (valD r ns)), Box w.heap.size 26 #[.int .i64 r, .slice A ns.length c]]) := S4
      clear HS2 S4 kB hownY hgY hatY hsn
      go_wp2_with fail
      go_roundw
      case rel => exact ⟨k + 1, aY, cY, by omega, by go_num, rfl, HS3⟩
      case measure => simp [intOf]; omega
    · obtain rfl : k = N := by omega
      go_wp2_with fail
      go_ret
      exact ⟨B, cc, rfl, HS.out.swap.tail⟩

theorem pow_wrap {v : Nat} (hv : v ≤ 6) : IntKind.i64.wrap ((2 : Int) ^ v) = ((2 ^ v : Nat) : Int) := by
  match v, hv with
  | 0, _ | 1, _ | 2, _ | 3, _ | 4, _ | 5, _ | 6, _ => decide

theorem l2Var_any (l : Int) (h0 : -6 ≤ l) (h1 : l ≤ 6) (w : World) : Calls Try.prog 81 #[.int .i64 l] w fun e w' => e = .returned (.int .i64 (if l < 0 then -l else l)) ∧ w = w' := by
  have hw1 : IntKind.i64.wrap (-l) = -l := IntWalk.i64_in _ (by omega)
  by_cases h : l < 0
  · rw [if_pos h]
    go_enter Try.func81, Try.ntmps81
    go_wp2_with fail
    go_ret
    exact ⟨rfl, rfl⟩
  · rw [if_neg h]
    go_enter Try.func81, Try.ntmps81
    go_wp2_with fail
    go_ret
    exact ⟨rfl, rfl⟩
theorem l2Lit_any (vars l : Int) (h0 : 0 ≤ vars) (h1 : vars ≤ 1000000) (w : World) : Calls Try.prog 55 #[.int .i64 vars, .int .i64 l] w fun e w' => e = .returned (.bool (litB vars l)) ∧ w = w' := by
  have hw1 : IntKind.i64.wrap (-vars) = -vars := IntWalk.i64_in _ (by omega)
  have hF : Hid (litB vars l = (inB l (-vars) vars && decide (l ≠ 0))) := by unfold Hid litB; rw [Bool.and_comm]
  cases h : inB l (-vars) vars
  all_goals
    rw [h] at hF
    go_enter Try.func55, Try.ntmps55
    go_wp2_with (go_at_call 48; refine (l1In_any _ _ _ _).mono ?_; rw [h]; rintro e w1 ⟨rfl, rfl⟩)
    go_ret
    exact ⟨ret_bool (by rw [hF.out]; first | rfl | (simp only [bne, decide_not, Bool.true_and]; by_cases e : l = 0 <;> simp [e])), rfl⟩

set_option maxRecDepth 100000 in
set_option maxHeartbeats 4000000 in
theorem l26Set_any (n : Nat) (hn : n ≤ 6) (l : Int) (hl0 : l ≠ 0) (hl1 : -(n : Int) ≤ l) (hl2 : l ≤ n) (f : Nat → Bool) (A : Option Addr) (c : Nat) (w : World) (hx : BlAt w A (2 ^ n) f) :
    Calls Try.prog 50 #[.slice A (2 ^ n) c, .int .i64 l] w fun e w' => ∃ B k, e = .returned (.slice B (2 ^ n) k) ∧ Sp w w' [Own 4 1 (.slice B (2 ^ n) k) (2 ^ n) (blV (2 ^ n) fun b => f (setL b l))] := by
  have hp : 2 ^ n ≤ 64 := (pow_small hn).2
  have hlt : Hid (∀ b, b < 2 ^ n → setL b l < 2 ^ n) := fun b hb => setL_lt hb hl0 hl1 hl2
  have hN := Lib.hid hx
  clear hx
  generalize 2 ^ n = N at *
  obtain ⟨i0, hi, hz0, hz1, hz2⟩ := info_parts infoBl
  obtain ⟨u, hu⟩ : ∃ u : Nat, (if l < 0 then -l else l) = (u : Int) + 1 := ⟨(if l < 0 then -l else l).toNat - 1, by split <;> omega⟩
  have hu6 : u ≤ 5 := by split at hu <;> omega
  have hl6 : -6 ≤ l := by omega
  have hl6' : l ≤ 6 := by omega
  have hs := Lib.hid (pow_wrap (v := u) (by omega))
  have hw4 : IntKind.i64.wrap (u : Int) = u := IntWalk.i64_in _ (by omega)
  go_enter Try.func50, Try.ntmps50
  go_upto_region 1 with fail
  go_cut [5, 6] (fun s5 s6 wx => ∃ B k, s5 = .slice B 0 k ∧ s6 = .int .i64 (2 ^ u : Nat) ∧ Hid (Sp w wx [Own 4 1 (.slice B 0 k) 0 (blV 0 fun b => f (setL b l))]))
  case first =>
    refine wp_region_held_lit (S := (fun w' => w' = w')) 7 [false, false, false, false, false, false, false] (by kernel_rfl) (by kernel_rfl) (by kernel_rfl) ?_ ?_
    · rfl
    intro hSc
    (refine wpAnyH_take (i := 1) (v := ?_) rfl (by kernel_rfl) (by kernel_rfl) (by kernel_rfl) (fun _ _ _ h => h) (Or.inl ⟨by rfl, ?_⟩) (by assumption) ?_; rotate_left; (focus (intro w hSw; (try dsimp only at hSw); go_simp; (try with_reducible rfl); done)); (try simp only [put_rules]))
    (refine wpAnyH_ready (rs := [0, 2]) (by kernel_rfl) (by simp) ?_; refine AllReadyH.cons rfl (fun K hK => ?_) (AllReadyH.cons rfl (fun K hK => ?_) AllReadyH.nil))
    · go_simp
      refine hK.out _ _ trivial (fun hSd => ?_)
      clear hK
      (refine wpAnyH_ready (rs := [2]) (by kernel_rfl) (by simp) ?_; refine AllReadyH.cons rfl (fun K hK => ?_) AllReadyH.nil)
      go_simp
      go_at_call 81
      refine (l2Var_any l hl6 hl6' _).mono ?_
      rw [hu]
      rintro e w1 ⟨rfl, rfl⟩
      go_wp2_with fail
      refine hK.out _ _ trivial (fun hSe => ?_)
      clear hK
      (try simp only [put_rules])
      (refine wpAnyH_take (i := 3) (v := ?_) rfl (by kernel_rfl) (by kernel_rfl) (by kernel_rfl) (fun _ _ _ h => h) (Or.inl ⟨by rfl, ?_⟩) (by assumption) ?_; rotate_left; (focus (intro w hSw; (try dsimp only at hSw); go_simp; (try with_reducible rfl); done)); (try simp only [put_rules]))
      (refine wpAnyH_take (i := 4) (v := ?_) rfl (by kernel_rfl) (by kernel_rfl) (by kernel_rfl) (fun _ _ _ h => h) (Or.inl ⟨by rfl, ?_⟩) (by assumption) ?_; rotate_left; (focus (intro w hSw; (try dsimp only at hSw); go_simp; (try with_reducible rfl); done)); (try simp only [put_rules]))
      (refine wpAnyH_take (i := 5) (v := ?_) rfl (by kernel_rfl) (by kernel_rfl) (by kernel_rfl) (fun _ _ _ h => h) (Or.inl ⟨by rfl, ?_⟩) (by assumption) ?_; rotate_left; (focus (intro w hSw; (try dsimp only at hSw); go_simp; (try with_reducible rfl); done)); (try simp only [put_rules]))
      (refine wpAnyH_take (i := 6) (v := ?_) rfl (by kernel_rfl) (by kernel_rfl) (by kernel_rfl) (fun _ _ _ h => h) (Or.inl ⟨by rfl, ?_⟩) (by assumption) ?_; rotate_left; (focus (intro w hSw; (try dsimp only at hSw); go_simp; (try with_reducible rfl); done)); (try simp only [put_rules]))
      (refine wpAnyH_done (by kernel_rfl) ?_ _)
      go_wp2_with fail
      go_meet
      exact ⟨_, _, rfl, by rw [hs.out], ((Sp.start w).own_made 4 1).drew⟩
    · go_simp
      go_at_call 81
      refine (l2Var_any l hl6 hl6' _).mono ?_
      rw [hu]
      rintro e w1 ⟨rfl, rfl⟩
      go_wp2_with fail
      refine hK.out _ _ trivial (fun hSe => ?_)
      clear hK
      (try simp only [put_rules])
      (refine wpAnyH_take (i := 3) (v := ?_) rfl (by kernel_rfl) (by kernel_rfl) (by kernel_rfl) (fun _ _ _ h => h) (Or.inl ⟨by rfl, ?_⟩) (by assumption) ?_; rotate_left; (focus (intro w hSw; (try dsimp only at hSw); go_simp; (try with_reducible rfl); done)); (try simp only [put_rules]))
      (refine wpAnyH_take (i := 4) (v := ?_) rfl (by kernel_rfl) (by kernel_rfl) (by kernel_rfl) (fun _ _ _ h => h) (Or.inl ⟨by rfl, ?_⟩) (by assumption) ?_; rotate_left; (focus (intro w hSw; (try dsimp only at hSw); go_simp; (try with_reducible rfl); done)); (try simp only [put_rules]))
      (refine wpAnyH_ready (rs := [0]) (by kernel_rfl) (by simp) ?_; refine AllReadyH.cons rfl (fun K hK => ?_) AllReadyH.nil)
      go_simp
      refine hK.out _ _ trivial (fun hSd => ?_)
      clear hK
      (try simp only [put_rules])
      (refine wpAnyH_take (i := 5) (v := ?_) rfl (by kernel_rfl) (by kernel_rfl) (by kernel_rfl) (fun _ _ _ h => h) (Or.inl ⟨by rfl, ?_⟩) (by assumption) ?_; rotate_left; (focus (intro w hSw; (try dsimp only at hSw); go_simp; (try with_reducible rfl); done)); (try simp only [put_rules]))
      (refine wpAnyH_take (i := 6) (v := ?_) rfl (by kernel_rfl) (by kernel_rfl) (by kernel_rfl) (fun _ _ _ h => h) (Or.inl ⟨by rfl, ?_⟩) (by assumption) ?_; rotate_left; (focus (intro w hSw; (try dsimp only at hSw); go_simp; (try with_reducible rfl); done)); (try simp only [put_rules]))
      (refine wpAnyH_done (by kernel_rfl) ?_ _)
      go_wp2_with fail
      go_meet
      exact ⟨_, _, rfl, by rw [hs.out], ((Sp.start w).own_made 4 1).drew⟩
  case rest =>
  obtain ⟨B0, k0, rfl, rfl, HS0⟩ := hcut
  have hv : ∀ k : Nat, k < N → (if 0 < l then bits .or .i64 (k : Int) (2 ^ u : Nat) else bits .andNot .i64 (k : Int) (2 ^ u : Nat)) = ((setL k l : Nat) : Int) := fun k hk => by
    split
    · rename_i h
      have e1 := or_set (b := k) (l := l) (by omega) h hl6'
      rw [(pow_small (v := l.toNat - 1) (by omega)).1] at e1
      rw [if_neg (by omega)] at hu
      rw [show u = l.toNat - 1 by omega]
      exact e1
    · rename_i h
      have e1 := clr_set (b := k) (l := l) (by omega) (by omega) hl6
      rw [(pow_small (v := (-l).toNat - 1) (by omega)).1] at e1
      rw [if_pos (by omega)] at hu
      rw [show u = (-l).toNat - 1 by omega]
      exact e1
  replace hv := Lib.hid hv
  generalize 2 ^ u = U at *
  clear hs hu
  go_wp2_with fail
  go_loopw [5, 7] (fun vo vi wr => ∃ (k : Nat) (B : Option Addr) (cc : Nat), k ≤ N ∧ vi = .int .i64 k ∧ vo = .slice B k cc ∧ Hid (Sp w wr [Own 4 1 (.slice B k cc) k (blV k fun b => f (setL b l))])) (fun _ vi _ => N - (intOf vi).toNat)
  case atStart => exact ⟨0, _, _, Nat.zero_le _, rfl, rfl, HS0⟩
  case round =>
    obtain ⟨k, B, cc, hk, rfl, rfl, HS⟩ := hrel
    clear HS0
    by_cases hlk : k < N
    · obtain ⟨b, off, rfl, m0⟩ := (hN.out.grow HS.out.below) (setL k l) (hlt.out k hlk)
      have hvk := hv.out k hlk
      have hsl := hlt.out k hlk
      have hsn := Lib.hid (blV_snoc k fun b => f (setL b l))
      generalize setL k l = k' at *
      generalize f k' = q at *
      have HS2 := HS.out.alloc_box #[.bool q] 4
      have kB := HS2.cell (i := 0) rfl (o := 0) rfl
      replace HS2 := Lib.hid HS2
      clear HS
      by_cases hpos : 0 < l
      · rw [if_pos hpos] at hvk
        go_wp2_with (at_builtin; refine wpList_append_src rfl _ _ rfl Try.underlying75 hi hz0 hz1 hz2 rfl (by decide) _ _ _ rfl (HS2.out.own (i := 1) rfl) _ 1 1 [.bool q] rfl (Src.one kB) (by simp [Value.oneCell']) ?c3 ?c4 ?_)
        case c3 => unfold maxLen; omega
        case c4 => omega
        intro vY wY hownY hgY hatY
        have S4 := (HS2.out.own_push (i := 1) rfl (bb _) hownY hgY (by simpa using hatY)).tail
        obtain ⟨aY, cY, rfl⟩ := own_slice hownY
        rw [← hsn.out] at S4
        have HS3 : Hid (Sp w wY [Own 4 1 (.slice aY (k + 1) cY) (k + 1) (blV (k + 1) fun b => f (setL b l))]) := S4
        clear HS2 S4 kB hownY hgY hatY hsn m0
        go_wp2_with fail
        go_roundw
        case rel => exact ⟨k + 1, aY, cY, by omega, by go_num, rfl, HS3⟩
        case measure => simp [intOf]; omega
      · rw [if_neg hpos] at hvk
        go_wp2_with (at_builtin; refine wpList_append_src rfl _ _ rfl Try.underlying75 hi hz0 hz1 hz2 rfl (by decide) _ _ _ rfl (HS2.out.own (i := 1) rfl) _ 1 1 [.bool q] rfl (Src.one kB) (by simp [Value.oneCell']) ?c3 ?c4 ?_)
        case c3 => unfold maxLen; omega
        case c4 => omega
        intro vY wY hownY hgY hatY
        have S4 := (HS2.out.own_push (i := 1) rfl (bb _) hownY hgY (by simpa using hatY)).tail
        obtain ⟨aY, cY, rfl⟩ := own_slice hownY
        rw [← hsn.out] at S4
        have HS3 : Hid (Sp w wY [Own 4 1 (.slice aY (k + 1) cY) (k + 1) (blV (k + 1) fun b => f (setL b l))]) := S4
        clear HS2 S4 kB hownY hgY hatY hsn m0
        go_wp2_with fail
        go_roundw
        case rel => exact ⟨k + 1, aY, cY, by omega, by go_num, rfl, HS3⟩
        case measure => simp [intOf]; omega
    · obtain rfl : k = N := by omega
      go_wp2_with fail
      go_ret
      exact ⟨B, cc, rfl, HS.out⟩
end Go.Proofs.Ytgcdifabbaoomaa
