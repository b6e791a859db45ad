/- Contracts: bits that are set, in the program. -/
import Derived.Test.YtgcdifabbaoomaaDgI
import Derived.Test.YtgcdifabbaoomaaHTail
import Derived.Test.YtgcdifabbaoomaaHTailB
namespace Go.Proofs.Ytgcdifabbaoomaa
open Go.RowKit

theorem set_fin : ∀ b < 64, ∀ k < 6, bits .andNot .i64 ((b : Nat) : Int) ((2 ^ k : Nat) : Int) = ((b - (if b.testBit k then 2 ^ k else 0) : Nat) : Int) := by decide +kernel
/-- Bits in which the variable of a literal is set such that the literal is true. -/
def setL (b : Nat) (l : Int) : Nat := if 0 < l then b ||| 2 ^ (l.toNat - 1) else b - (if b.testBit ((-l).toNat - 1) then 2 ^ ((-l).toNat - 1) else 0)
theorem or_set {b : Nat} {l : Int} (hb : b < 64) (h0 : 0 < l) (h1 : l ≤ 6) : bits .or .i64 (b : Int) (wrap64 (2 ^ (l.toNat - 1))) = ((setL b l : Nat) : Int) := by
  obtain ⟨e1, e2⟩ := pow_small (v := l.toNat - 1) (by omega)
  rw [e1, (i64_nat b (2 ^ (l.toNat - 1)) (by omega) (by omega)).1, setL, if_pos h0]
theorem clr_set {b : Nat} {l : Int} (hb : b < 64) (h0 : l < 0) (h1 : -6 ≤ l) : bits .andNot .i64 (b : Int) (wrap64 (2 ^ ((-l).toNat - 1))) = ((setL b l : Nat) : Int) := by
  obtain ⟨e1, e2⟩ := pow_small (v := (-l).toNat - 1) (by omega)
  rw [e1, set_fin b hb ((-l).toNat - 1) (by omega), setL, if_neg (show ¬ 0 < l by omega)]
theorem setL_lt {b vars : Nat} {l : Int} (hb : b < 2 ^ vars) (h0 : l ≠ 0) (h1 : -(vars : Int) ≤ l) (h2 : l ≤ vars) : setL b l < 2 ^ vars := by
  unfold setL
  split
  · exact Nat.or_lt_two_pow hb (Nat.pow_lt_pow_right (by decide) (by omega))
  · omega

set_option maxRecDepth 100000 in
theorem setBit_any (b : Nat) (l : Int) (hb : b < 64) (h0 : l ≠ 0) (h1 : -6 ≤ l) (h2 : l ≤ 6) (w : World) : Calls Try.prog 46 #[.int .i64 b, .int .i64 l] w fun e w' => e = .returned (.int .i64 (setL b l : Nat)) ∧ Below w.heap.size w w' := by
  by_cases hl : 0 < l
  · have hr := or_set hb hl h2
    go_enter Try.func46, Try.ntmps46
    go_wp2_with fail
    go_ret
    exact ⟨by first | rfl | (rw [← hr]; rfl) | exact ret_int hr, bb _⟩
  · have hr := clr_set hb (by omega) h1
    have hw1 : IntKind.i64.wrap (-l) = -l := IntWalk.i64_in _ (by omega)
    have hw2 : IntKind.i64.wrap (-l - 1) = -l - 1 := IntWalk.i64_in _ (by omega)
    go_enter Try.func46, Try.ntmps46
    go_wp2_with fail
    go_ret
    exact ⟨by first | rfl | (rw [← hr]; rfl) | exact ret_int hr, bb _⟩

def litB (vars l : Int) : Bool := decide (l ≠ 0) && inB l (-vars) vars
set_option maxRecDepth 100000 in
theorem isLiteral_any (vars l : Int) (h0 : 0 ≤ vars) (h1 : vars ≤ 1000000) (w : World) : Calls Try.prog 52 #[.int .i64 vars, .int .i64 l] w fun e w' => e = .returned (.bool (litB vars l)) ∧ Below w.heap.size w w' := by
  have hw1 : IntKind.i64.wrap (-vars) = -vars := IntWalk.i64_in _ (by omega)
  by_cases hl : l = 0
  · have hF : Hid (litB vars l = false) := by unfold Hid litB; rw [decide_eq_false (by omega)]; rfl
    go_enter Try.func52, Try.ntmps52
    go_wp2_with fail
    go_ret
    exact ⟨ret_bool hF.out.symm, bb _⟩
  · have hF : Hid (litB vars l = inB l (-vars) vars) := by unfold Hid litB; rw [decide_eq_true hl]; rfl
    go_enter Try.func52, Try.ntmps52
    go_wp2_with (go_at_call 61; refine (within_any _ _ _ _).mono ?_; rintro e w1 ⟨rfl, rfl⟩)
    go_ret
    exact ⟨ret_bool (by rw [hF.out]; simp [hl]), bb _⟩

set_option maxRecDepth 100000 in
set_option maxHeartbeats 4000000 in
theorem setIn1_any (r l : Int) (A : Option Addr) (c : Nat) (ns : List Nd) (b b4 b5 : Nat) (w : World) (hx : NdAt w A ns) (hl : ns.length ≤ 1000000) (hw : WkN ns)
    (h0 : 0 ≤ r) (h1 : r ≤ ns.length + 1) (hb : b < 64) (hl0 : l ≠ 0) (hl1 : -6 ≤ l) (hl2 : l ≤ 6)
    (k4 : w.cell? ⟨b4, 0, none⟩ = some (.int .i64 r)) (k4' : w.cell? ⟨b4, 1, none⟩ = some (.slice A ns.length c)) (k5 : w.cell? ⟨b5, 0, none⟩ = some (.int .i64 l)) :
    Calls Try.prog 53 #[.int .i64 b, .pointer (some ⟨b4, 0, none⟩), .pointer (some ⟨b5, 0, none⟩)] w fun e w' => e = .returned (.bool (valD r ns (setL b l))) ∧ Below w.heap.size w w' := by
  have hs := Lib.hid (fun W => setBit_any b l hb hl0 hl1 hl2 W)
  have hS : setL b l < 64 := setL_lt (vars := 6) hb hl0 hl1 hl2
  have hc1 := Lib.hid (fun W (hb' : Below w.heap.size w W) => valueAt_any r (setL b l) A c ns W (hx.grow hb') hl hw h0 h1 (Nat.lt_of_lt_of_le hS (by decide)))
  clear hx hw hl h0 h1 hS hb
  generalize setL b l = b' at *
  generalize valD r ns b' = x at *
  go_enter Try.func53, Try.ntmps53
  go_wp2_with fail
  refine wp_region_held_lit (S := (fun w' => w'.cell? ⟨b4, 0, none⟩ = some (.int .i64 r) ∧ w'.cell? ⟨b4, 1, none⟩ = some (.slice A ns.length c) ∧ w'.cell? ⟨b5, 0, none⟩ = some (.int .i64 l))) 6 [false, false, false, false, false, false] (by kernel_rfl) (by kernel_rfl) (by kernel_rfl) ?_ ?_
  · exact ⟨k4, k4', k5⟩
  intro hSc
  (refine wpAnyH_take (i := 0) (v := ?_) rfl (by kernel_rfl) (by kernel_rfl) (by kernel_rfl) (fun _ _ _ h => h) (Or.inl ⟨by rfl, ?_⟩) (by assumption) ?_; rotate_left; (focus (intro w hSw; (try dsimp only at hSw); go_simp; (try with_reducible rfl); done)); (try simp only [put_rules]))
  (refine wpAnyH_take (i := 1) (v := ?_) rfl (by kernel_rfl) (by kernel_rfl) (by kernel_rfl) (fun _ _ _ h => h) (Or.inl ⟨by rfl, ?_⟩) (by assumption) ?_; rotate_left; (focus (intro w hSw; (try dsimp only at hSw); go_simp; (try with_reducible rfl); done)); (try simp only [put_rules]))
  (refine wpAnyH_take (i := 2) (v := ?_) rfl (by kernel_rfl) (by kernel_rfl) (by kernel_rfl) (fun _ _ _ h => h) (Or.inl ⟨by rfl, ?_⟩) (by assumption) ?_; rotate_left; (focus (intro w hSw; (try dsimp only at hSw); go_simp; (try with_reducible rfl); done)); (try simp only [put_rules]))
  (refine wpAnyH_ready (rs := [3]) (by kernel_rfl) (by simp) ?_; refine AllReadyH.cons rfl (fun K hK => ?_) AllReadyH.nil)
  go_simp
  go_at_call 46
  refine (hs.out _).mono ?_
  rintro e w3 ⟨rfl, hb3⟩
  go_wp2_with fail
  have hB3 := btr (bdr (bb w)) hb3
  refine hK.out _ _ ⟨((bcell hB3).1 _ _ (World.block_lt_of_cell? _ _ k4)).trans k4, ((bcell hB3).1 _ _ (World.block_lt_of_cell? _ _ k4')).trans k4', ((bcell hB3).1 _ _ (World.block_lt_of_cell? _ _ k5)).trans k5⟩ (fun hSd3 => ?_)
  clear hK
  (try simp only [put_rules])
  (refine wpAnyH_ready (rs := [4]) (by kernel_rfl) (by simp) ?_; refine AllReadyH.cons rfl (fun K hK => ?_) AllReadyH.nil)
  go_simp
  go_at_call 41
  refine (hc1.out _ hB3).mono ?_
  rintro e w4 ⟨rfl, hb4⟩
  go_wp2_with fail
  have hB4 := btr hB3 hb4
  refine hK.out _ _ ⟨((bcell hB4).1 _ _ (World.block_lt_of_cell? _ _ k4)).trans k4, ((bcell hB4).1 _ _ (World.block_lt_of_cell? _ _ k4')).trans k4', ((bcell hB4).1 _ _ (World.block_lt_of_cell? _ _ k5)).trans k5⟩ (fun hSd4 => ?_)
  clear hK
  (try simp only [put_rules])
  (refine wpAnyH_take (i := 5) (v := ?_) rfl (by kernel_rfl) (by kernel_rfl) (by kernel_rfl) (fun _ _ _ h => h) (Or.inl ⟨by rfl, ?_⟩) (by assumption) ?_; rotate_left; (focus (intro w hSw; (try dsimp only at hSw); go_simp; (try with_reducible rfl); done)); (try simp only [put_rules]))
  (refine wpAnyH_done (by kernel_rfl) ?_ _)
  go_wp2_with fail
  go_ret
  exact ⟨rfl, hB4⟩

set_option maxRecDepth 100000 in
set_option maxHeartbeats 4000000 in
theorem forget1_any (r l : Int) (A : Option Addr) (c : Nat) (ns : List Nd) (b b4 b5 : Nat) (w : World) (hx : NdAt w A ns) (hl : ns.length ≤ 1000000) (hw : WkN ns)
    (h0 : 0 ≤ r) (h1 : r ≤ ns.length + 1) (hb : b < 64) (hl0 : 0 < l) (hl1 : -6 ≤ l) (hl2 : l ≤ 6)
    (k4 : w.cell? ⟨b4, 0, none⟩ = some (.int .i64 r)) (k4' : w.cell? ⟨b4, 1, none⟩ = some (.slice A ns.length c)) (k5 : w.cell? ⟨b5, 0, none⟩ = some (.int .i64 l)) :
    Calls Try.prog 45 #[.int .i64 b, .pointer (some ⟨b4, 0, none⟩), .pointer (some ⟨b5, 0, none⟩)] w fun e w' => e = .returned (.bool (valD r ns (setL b l) || valD r ns (setL b (-l)))) ∧ Below w.heap.size w w' := by
  have hw1 : IntKind.i64.wrap (-l) = -l := IntWalk.i64_in _ (by omega)
  have hs := Lib.hid (fun W => setBit_any b l hb (by omega) hl1 hl2 W)
  have hs2 := Lib.hid (fun W => setBit_any b (-l) hb (by omega) (by omega) (by omega) W)
  have hS : setL b l < 64 := setL_lt (vars := 6) hb (by omega) hl1 hl2
  have hS2 : setL b (-l) < 64 := setL_lt (vars := 6) hb (by omega) (by omega) (by omega)
  have hc1 := Lib.hid (fun W (hb' : Below w.heap.size w W) => valueAt_any r (setL b l) A c ns W (hx.grow hb') hl hw h0 h1 (Nat.lt_of_lt_of_le hS (by decide)))
  have hc2 := Lib.hid (fun W (hb' : Below w.heap.size w W) => valueAt_any r (setL b (-l)) A c ns W (hx.grow hb') hl hw h0 h1 (Nat.lt_of_lt_of_le hS2 (by decide)))
  clear hx hw hl h0 h1 hS hS2 hb
  generalize setL b l = b' at *
  generalize setL b (-l) = b'' at *
  generalize valD r ns b' = x at *
  generalize valD r ns b'' = y at *
  cases x
  · go_enter Try.func45, Try.ntmps45
    go_wp2_with fail
    refine wp_region_held_lit (S := (fun w' => w'.cell? ⟨b4, 0, none⟩ = some (.int .i64 r) ∧ w'.cell? ⟨b4, 1, none⟩ = some (.slice A ns.length c) ∧ w'.cell? ⟨b5, 0, none⟩ = some (.int .i64 l))) 14 [false, false, false, false, false, false, false, false, false, false, false, false, false, false] (by kernel_rfl) (by kernel_rfl) (by kernel_rfl) ?_ ?_
    · exact ⟨k4, k4', k5⟩
    intro hSc
    (refine wpAnyH_take (i := 0) (v := ?_) rfl (by kernel_rfl) (by kernel_rfl) (by kernel_rfl) (fun _ _ _ h => h) (Or.inl ⟨by rfl, ?_⟩) (by assumption) ?_; rotate_left; (focus (intro w hSw; (try dsimp only at hSw); go_simp; (try with_reducible rfl); done)); (try simp only [put_rules]))
    (refine wpAnyH_take (i := 1) (v := ?_) rfl (by kernel_rfl) (by kernel_rfl) (by kernel_rfl) (fun _ _ _ h => h) (Or.inl ⟨by rfl, ?_⟩) (by assumption) ?_; rotate_left; (focus (intro w hSw; (try dsimp only at hSw); go_simp; (try with_reducible rfl); done)); (try simp only [put_rules]))
    (refine wpAnyH_take (i := 2) (v := ?_) rfl (by kernel_rfl) (by kernel_rfl) (by kernel_rfl) (fun _ _ _ h => h) (Or.inl ⟨by rfl, ?_⟩) (by assumption) ?_; rotate_left; (focus (intro w hSw; (try dsimp only at hSw); go_simp; (try with_reducible rfl); done)); (try simp only [put_rules]))
    (refine wpAnyH_ready (rs := [3]) (by kernel_rfl) (by simp) ?_; refine AllReadyH.cons rfl (fun K hK => ?_) AllReadyH.nil)
    go_simp
    go_at_call 46
    refine (hs.out _).mono ?_
    rintro e w3 ⟨rfl, hb3⟩
    go_wp2_with fail
    have hB3 := btr (bdr (bb w)) hb3
    refine hK.out _ _ ⟨((bcell hB3).1 _ _ (World.block_lt_of_cell? _ _ k4)).trans k4, ((bcell hB3).1 _ _ (World.block_lt_of_cell? _ _ k4')).trans k4', ((bcell hB3).1 _ _ (World.block_lt_of_cell? _ _ k5)).trans k5⟩ (fun hSd3 => ?_)
    clear hK
    (try simp only [put_rules])
    (refine wpAnyH_ready (rs := [4]) (by kernel_rfl) (by simp) ?_; refine AllReadyH.cons rfl (fun K hK => ?_) AllReadyH.nil)
    go_simp
    go_at_call 41
    refine (hc1.out _ hB3).mono ?_
    rintro e w4 ⟨rfl, hb4⟩
    go_wp2_with fail
    have hB4 := btr hB3 hb4
    refine hK.out _ _ ⟨((bcell hB4).1 _ _ (World.block_lt_of_cell? _ _ k4)).trans k4, ((bcell hB4).1 _ _ (World.block_lt_of_cell? _ _ k4')).trans k4', ((bcell hB4).1 _ _ (World.block_lt_of_cell? _ _ k5)).trans k5⟩ (fun hSd4 => ?_)
    clear hK
    (try simp only [put_rules])
    (refine wpAnyH_take (i := 5) (v := ?_) rfl (by kernel_rfl) (by kernel_rfl) (by kernel_rfl) (fun _ _ _ h => h) (Or.inl ⟨by rfl, ?_⟩) (by assumption) ?_; rotate_left; (focus (intro w hSw; (try dsimp only at hSw); go_simp; (try with_reducible rfl); done)); (try simp only [put_rules]))
    (refine wpAnyH_take (i := 6) (v := ?_) rfl (by kernel_rfl) (by kernel_rfl) (by kernel_rfl) (fun _ _ _ h => h) (Or.inl ⟨by rfl, ?_⟩) (by assumption) ?_; rotate_left; (focus (intro w hSw; (try dsimp only at hSw); go_simp; (try with_reducible rfl); done)); (try simp only [put_rules]))
    (refine wpAnyH_take (i := 7) (v := ?_) rfl (by kernel_rfl) (by kernel_rfl) (by kernel_rfl) (fun _ _ _ h => h) (Or.inl ⟨by rfl, ?_⟩) (by assumption) ?_; rotate_left; (focus (intro w hSw; (try dsimp only at hSw); go_simp; (try with_reducible rfl); done)); (try simp only [put_rules]))
    (refine wpAnyH_take (i := 8) (v := ?_) rfl (by kernel_rfl) (by kernel_rfl) (by kernel_rfl) (fun _ _ _ h => h) (Or.inl ⟨by rfl, ?_⟩) (by assumption) ?_; rotate_left; (focus (intro w hSw; (try dsimp only at hSw); go_simp; (try with_reducible rfl); done)); (try simp only [put_rules]))
    (refine wpAnyH_take (i := 9) (v := ?_) rfl (by kernel_rfl) (by kernel_rfl) (by kernel_rfl) (fun _ _ _ h => h) (Or.inl ⟨by rfl, ?_⟩) (by assumption) ?_; rotate_left; (focus (intro w hSw; (try dsimp only at hSw); go_simp; (try with_reducible rfl); done)); (try simp only [put_rules]))
    (refine wpAnyH_ready (rs := [10]) (by kernel_rfl) (by simp) ?_; refine AllReadyH.cons rfl (fun K hK => ?_) AllReadyH.nil)
    go_simp
    go_at_call 46
    refine (hs2.out _).mono ?_
    rintro e w10 ⟨rfl, hb10⟩
    go_wp2_with fail
    have hB10 := btr hB4 hb10
    refine hK.out _ _ ⟨((bcell hB10).1 _ _ (World.block_lt_of_cell? _ _ k4)).trans k4, ((bcell hB10).1 _ _ (World.block_lt_of_cell? _ _ k4')).trans k4', ((bcell hB10).1 _ _ (World.block_lt_of_cell? _ _ k5)).trans k5⟩ (fun hSd10 => ?_)
    clear hK
    (try simp only [put_rules])
    (refine wpAnyH_ready (rs := [11]) (by kernel_rfl) (by simp) ?_; refine AllReadyH.cons rfl (fun K hK => ?_) AllReadyH.nil)
    go_simp
    go_at_call 41
    refine (hc2.out _ hB10).mono ?_
    rintro e w11 ⟨rfl, hb11⟩
    go_wp2_with fail
    have hB11 := btr hB10 hb11
    refine hK.out _ _ ⟨((bcell hB11).1 _ _ (World.block_lt_of_cell? _ _ k4)).trans k4, ((bcell hB11).1 _ _ (World.block_lt_of_cell? _ _ k4')).trans k4', ((bcell hB11).1 _ _ (World.block_lt_of_cell? _ _ k5)).trans k5⟩ (fun hSd11 => ?_)
    clear hK
    (try simp only [put_rules])
    (refine wpAnyH_take (i := 12) (v := ?_) rfl (by kernel_rfl) (by kernel_rfl) (by kernel_rfl) (fun _ _ _ h => h) (Or.inl ⟨by rfl, ?_⟩) (by assumption) ?_; rotate_left; (focus (intro w hSw; (try dsimp only at hSw); go_simp; (try with_reducible rfl); done)); (try simp only [put_rules]))
    (refine wpAnyH_take (i := 13) (v := ?_) rfl (by kernel_rfl) (by kernel_rfl) (by kernel_rfl) (fun _ _ _ h => h) (Or.inl ⟨by rfl, ?_⟩) (by assumption) ?_; rotate_left; (focus (intro w hSw; (try dsimp only at hSw); go_simp; (try with_reducible rfl); done)); (try simp only [put_rules]))
    (refine wpAnyH_done (by kernel_rfl) ?_ _)
    go_wp2_with fail
    go_ret
    exact ⟨rfl, hB11⟩
  · go_enter Try.func45, Try.ntmps45
    go_wp2_with fail
    refine wp_region_held_lit (S := (fun w' => w'.cell? ⟨b4, 0, none⟩ = some (.int .i64 r) ∧ w'.cell? ⟨b4, 1, none⟩ = some (.slice A ns.length c) ∧ w'.cell? ⟨b5, 0, none⟩ = some (.int .i64 l))) 14 [false, false, false, false, false, false, false, false, false, false, false, false, false, false] (by kernel_rfl) (by kernel_rfl) (by kernel_rfl) ?_ ?_
    · exact ⟨k4, k4', k5⟩
    intro hSc
    (refine wpAnyH_take (i := 0) (v := ?_) rfl (by kernel_rfl) (by kernel_rfl) (by kernel_rfl) (fun _ _ _ h => h) (Or.inl ⟨by rfl, ?_⟩) (by assumption) ?_; rotate_left; (focus (intro w hSw; (try dsimp only at hSw); go_simp; (try with_reducible rfl); done)); (try simp only [put_rules]))
    (refine wpAnyH_take (i := 1) (v := ?_) rfl (by kernel_rfl) (by kernel_rfl) (by kernel_rfl) (fun _ _ _ h => h) (Or.inl ⟨by rfl, ?_⟩) (by assumption) ?_; rotate_left; (focus (intro w hSw; (try dsimp only at hSw); go_simp; (try with_reducible rfl); done)); (try simp only [put_rules]))
    (refine wpAnyH_take (i := 2) (v := ?_) rfl (by kernel_rfl) (by kernel_rfl) (by kernel_rfl) (fun _ _ _ h => h) (Or.inl ⟨by rfl, ?_⟩) (by assumption) ?_; rotate_left; (focus (intro w hSw; (try dsimp only at hSw); go_simp; (try with_reducible rfl); done)); (try simp only [put_rules]))
    (refine wpAnyH_ready (rs := [3]) (by kernel_rfl) (by simp) ?_; refine AllReadyH.cons rfl (fun K hK => ?_) AllReadyH.nil)
    go_simp
    go_at_call 46
    refine (hs.out _).mono ?_
    rintro e w3 ⟨rfl, hb3⟩
    go_wp2_with fail
    have hB3 := btr (bdr (bb w)) hb3
    refine hK.out _ _ ⟨((bcell hB3).1 _ _ (World.block_lt_of_cell? _ _ k4)).trans k4, ((bcell hB3).1 _ _ (World.block_lt_of_cell? _ _ k4')).trans k4', ((bcell hB3).1 _ _ (World.block_lt_of_cell? _ _ k5)).trans k5⟩ (fun hSd3 => ?_)
    clear hK
    (try simp only [put_rules])
    (refine wpAnyH_ready (rs := [4]) (by kernel_rfl) (by simp) ?_; refine AllReadyH.cons rfl (fun K hK => ?_) AllReadyH.nil)
    go_simp
    go_at_call 41
    refine (hc1.out _ hB3).mono ?_
    rintro e w4 ⟨rfl, hb4⟩
    go_wp2_with fail
    have hB4 := btr hB3 hb4
    refine hK.out _ _ ⟨((bcell hB4).1 _ _ (World.block_lt_of_cell? _ _ k4)).trans k4, ((bcell hB4).1 _ _ (World.block_lt_of_cell? _ _ k4')).trans k4', ((bcell hB4).1 _ _ (World.block_lt_of_cell? _ _ k5)).trans k5⟩ (fun hSd4 => ?_)
    clear hK
    (try simp only [put_rules])
    (refine wpAnyH_take (i := 5) (v := ?_) rfl (by kernel_rfl) (by kernel_rfl) (by kernel_rfl) (fun _ _ _ h => h) (Or.inl ⟨by rfl, ?_⟩) (by assumption) ?_; rotate_left; (focus (intro w hSw; (try dsimp only at hSw); go_simp; (try with_reducible rfl); done)); (try simp only [put_rules]))
    (refine wpAnyH_take (i := 6) (v := undef) rfl (by kernel_rfl) (by kernel_rfl) (by kernel_rfl) (fun _ _ _ h => h) (Or.inr ⟨by rfl, rfl⟩) (by assumption) ?_; (try simp only [put_rules]))
    (refine wpAnyH_take (i := 7) (v := undef) rfl (by kernel_rfl) (by kernel_rfl) (by kernel_rfl) (fun _ _ _ h => h) (Or.inr ⟨by rfl, rfl⟩) (by assumption) ?_; (try simp only [put_rules]))
    (refine wpAnyH_take (i := 8) (v := undef) rfl (by kernel_rfl) (by kernel_rfl) (by kernel_rfl) (fun _ _ _ h => h) (Or.inr ⟨by rfl, rfl⟩) (by assumption) ?_; (try simp only [put_rules]))
    (refine wpAnyH_take (i := 9) (v := undef) rfl (by kernel_rfl) (by kernel_rfl) (by kernel_rfl) (fun _ _ _ h => h) (Or.inr ⟨by rfl, rfl⟩) (by assumption) ?_; (try simp only [put_rules]))
    (refine wpAnyH_take (i := 10) (v := undef) rfl (by kernel_rfl) (by kernel_rfl) (by kernel_rfl) (fun _ _ _ h => h) (Or.inr ⟨by rfl, rfl⟩) (by assumption) ?_; (try simp only [put_rules]))
    (refine wpAnyH_take (i := 11) (v := undef) rfl (by kernel_rfl) (by kernel_rfl) (by kernel_rfl) (fun _ _ _ h => h) (Or.inr ⟨by rfl, rfl⟩) (by assumption) ?_; (try simp only [put_rules]))
    (refine wpAnyH_take (i := 12) (v := ?_) rfl (by kernel_rfl) (by kernel_rfl) (by kernel_rfl) (fun _ _ _ h => h) (Or.inl ⟨by rfl, ?_⟩) (by assumption) ?_; rotate_left; (focus (intro w hSw; (try dsimp only at hSw); go_simp; (try with_reducible rfl); done)); (try simp only [put_rules]))
    (refine wpAnyH_take (i := 13) (v := ?_) rfl (by kernel_rfl) (by kernel_rfl) (by kernel_rfl) (fun _ _ _ h => h) (Or.inl ⟨by rfl, ?_⟩) (by assumption) ?_; rotate_left; (focus (intro w hSw; (try dsimp only at hSw); go_simp; (try with_reducible rfl); done)); (try simp only [put_rules]))
    (refine wpAnyH_done (by kernel_rfl) ?_ _)
    go_wp2_with fail
    go_ret
    exact ⟨rfl, hB4⟩
end Go.Proofs.Ytgcdifabbaoomaa
