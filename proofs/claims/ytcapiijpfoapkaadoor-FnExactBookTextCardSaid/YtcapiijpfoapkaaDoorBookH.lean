/- Contracts: records compared. -/
import Derived.Test.YtcapiijpfoapkaaDoorBookG
namespace Go.Proofs.YtcapiijpfoapkaaDoor
open Go.RowKit

theorem drew_size (w : World) : w.drew.heap.size = w.heap.size := rfl

set_option maxRecDepth 100000 in
set_option maxHeartbeats 4000000 in
theorem compareRecords_any (a b : Rec) (w : World) :
    Calls Tryd.prog 34 #[rcV a, rcV b] w fun e w' => e = .returned (.int .i64 (cmpR a b)) ∧ Below w.heap.size w w' := by
  have S0 := (((Sp.start w).alloc_box #[.string (ms a.name), .int .i64 a.sys, .int .i64 a.size, .int .i64 a.extra] 39).alloc_box #[.string (ms b.name), .int .i64 b.sys, .int .i64 b.size, .int .i64 b.extra] 39).drew
  simp only [World.size_alloc] at S0
  have c0 := S0.cell (i := 1) rfl (o := 0) rfl
  have c1 := S0.cell (i := 1) rfl (o := 1) rfl
  have d0 := S0.cell (i := 0) rfl (o := 0) rfl
  have d1 := S0.cell (i := 0) rfl (o := 1) rfl
  have hsc : ∀ w', Calls Tryd.prog 41 #[.string (ms a.name), .string (ms b.name)] w' fun e w'' => e = .returned (.int .i64 (Lib.compareBytes a.name b.name)) ∧ w'' = w' := fun w' => Tryd.strings_Compare (ms a.name) (ms b.name) w'
  obtain ⟨x, hx⟩ : ∃ x, Lib.compareBytes a.name b.name = x := ⟨_, rfl⟩
  obtain ⟨y, hy⟩ : ∃ y, Lib.compareInt a.sys b.sys = y := ⟨_, rfl⟩
  have hR : Hid (orN x y = cmpR a b) := by unfold Hid cmpR; rw [hx, hy]
  have hcc : ∀ w', Calls Tryd.prog 42 #[.int .i64 a.sys, .int .i64 b.sys] w' fun e w'' => e = .returned (.int .i64 y) ∧ w'' = w' := fun w' => by
    have := Tryd.cmp_Compare_int a.sys b.sys w'
    rw [hy] at this
    exact this
  rw [hx] at hsc
  replace hsc := Lib.hid hsc
  replace hcc := Lib.hid hcc
  replace S0 := Lib.hid S0
  clear hx hy
  go_enter Tryd.func34, Tryd.ntmps34
  go_wp2_with fail
  refine wp_region_held_lit (S := (fun w' => w'.cell? ⟨w.heap.size, 0, none⟩ = some (.string (ms a.name)) ∧ w'.cell? ⟨w.heap.size, 1, none⟩ = some (.int .i64 a.sys) ∧ w'.cell? ⟨w.heap.size + 1, 0, none⟩ = some (.string (ms b.name)) ∧ w'.cell? ⟨w.heap.size + 1, 1, none⟩ = some (.int .i64 b.sys))) 13 [false, false, false, false, false, false, false, false, false, false, false, false, false] (by kernel_rfl) (by kernel_rfl) (by kernel_rfl) ?_ ?_
  · exact ⟨c0, c1, d0, d1⟩
  intro hSc
  (refine wpAnyH_take (i := 0) (v := ?_) rfl (by kernel_rfl) (by kernel_rfl) (by kernel_rfl) (fun _ _ _ h => h) (Or.inl ⟨by rfl, ?_⟩) (by assumption) ?_; rotate_left; (focus (intro w hSw; (try dsimp only at hSw); go_simp; (try with_reducible rfl); done)); (try simp only [put_rules]))
  (refine wpAnyH_take (i := 1) (v := ?_) rfl (by kernel_rfl) (by kernel_rfl) (by kernel_rfl) (fun _ _ _ h => h) (Or.inl ⟨by rfl, ?_⟩) (by assumption) ?_; rotate_left; (focus (intro w hSw; (try dsimp only at hSw); go_simp; (try with_reducible rfl); done)); (try simp only [put_rules]))
  (refine wpAnyH_take (i := 2) (v := ?_) rfl (by kernel_rfl) (by kernel_rfl) (by kernel_rfl) (fun _ _ _ h => h) (Or.inl ⟨by rfl, ?_⟩) (by assumption) ?_; rotate_left; (focus (intro w hSw; (try dsimp only at hSw); go_simp; (try with_reducible rfl); done)); (try simp only [put_rules]))
  (refine wpAnyH_take (i := 3) (v := ?_) rfl (by kernel_rfl) (by kernel_rfl) (by kernel_rfl) (fun _ _ _ h => h) (Or.inl ⟨by rfl, ?_⟩) (by assumption) ?_; rotate_left; (focus (intro w hSw; (try dsimp only at hSw); go_simp; (try with_reducible rfl); done)); (try simp only [put_rules]))
  (refine wpAnyH_take (i := 5) (v := ?_) rfl (by kernel_rfl) (by kernel_rfl) (by kernel_rfl) (fun _ _ _ h => h) (Or.inl ⟨by rfl, ?_⟩) (by assumption) ?_; rotate_left; (focus (intro w hSw; (try dsimp only at hSw); go_simp; (try with_reducible rfl); done)); (try simp only [put_rules]))
  (refine wpAnyH_take (i := 6) (v := ?_) rfl (by kernel_rfl) (by kernel_rfl) (by kernel_rfl) (fun _ _ _ h => h) (Or.inl ⟨by rfl, ?_⟩) (by assumption) ?_; rotate_left; (focus (intro w hSw; (try dsimp only at hSw); go_simp; (try with_reducible rfl); done)); (try simp only [put_rules]))
  (refine wpAnyH_take (i := 7) (v := ?_) rfl (by kernel_rfl) (by kernel_rfl) (by kernel_rfl) (fun _ _ _ h => h) (Or.inl ⟨by rfl, ?_⟩) (by assumption) ?_; rotate_left; (focus (intro w hSw; (try dsimp only at hSw); go_simp; (try with_reducible rfl); done)); (try simp only [put_rules]))
  (refine wpAnyH_take (i := 8) (v := ?_) rfl (by kernel_rfl) (by kernel_rfl) (by kernel_rfl) (fun _ _ _ h => h) (Or.inl ⟨by rfl, ?_⟩) (by assumption) ?_; rotate_left; (focus (intro w hSw; (try dsimp only at hSw); go_simp; (try with_reducible rfl); done)); (try simp only [put_rules]))
  (refine wpAnyH_ready (rs := [4]) (by kernel_rfl) (by simp) ?_; refine AllReadyH.cons rfl (fun K hK => ?_) AllReadyH.nil)
  go_simp
  go_at_call 41
  refine (hsc.out _).mono ?_
  rintro e w1 ⟨rfl, rfl⟩
  go_wp2_with fail
  refine hK.out _ _ ⟨c0, c1, d0, d1⟩ (fun hSd => ?_)
  clear hK hSd
  (try simp only [put_rules])
  (refine wpAnyH_ready (rs := [9]) (by kernel_rfl) (by simp) ?_; refine AllReadyH.cons rfl (fun K hK => ?_) AllReadyH.nil)
  go_simp
  go_at_call 42
  refine (hcc.out _).mono ?_
  rintro e w1 ⟨rfl, rfl⟩
  go_wp2_with fail
  refine hK.out _ _ ⟨c0, c1, d0, d1⟩ (fun hSd => ?_)
  clear hK hSd
  (try simp only [put_rules])
  (refine wpAnyH_ready (rs := [10]) (by kernel_rfl) (by simp) ?_; refine AllReadyH.cons rfl (fun K hK => ?_) AllReadyH.nil)
  go_simp
  have S1 := S0.out.alloc_box #[.int .i64 x, .int .i64 y] 3
  simp only [drew_size, World.size_alloc] at S1
  have k0 := S1.cell (i := 0) rfl (o := 0) rfl
  have k1 := S1.cell (i := 0) rfl (o := 1) rfl
  have e0 := S1.cell (i := 2) rfl (o := 0) rfl
  have e1 := S1.cell (i := 2) rfl (o := 1) rfl
  have e2 := S1.cell (i := 1) rfl (o := 0) rfl
  have e3 := S1.cell (i := 1) rfl (o := 1) rfl
  have hB := S1.below
  clear S1
  refine hK.out _ _ ⟨e0, e1, e2, e3⟩ (fun hSd => ?_)
  clear hK hSd
  (try simp only [put_rules])
  (refine wpAnyH_ready (rs := [11]) (by kernel_rfl) (by simp) ?_; refine AllReadyH.cons rfl (fun K hK => ?_) AllReadyH.nil)
  go_simp
  go_at_call 40
  refine (cmpOr_any _ x y _ k0 k1).mono ?_
  rintro e w2 ⟨rfl, rfl⟩
  go_wp2_with fail
  refine hK.out _ _ ⟨e0, e1, e2, e3⟩ (fun hSd => ?_)
  clear hK
  (try simp only [put_rules])
  (refine wpAnyH_take (i := 12) (v := ?_) rfl (by kernel_rfl) (by kernel_rfl) (by kernel_rfl) (fun _ _ _ h => h) (Or.inl ⟨by rfl, ?_⟩) (by assumption) ?_; rotate_left; (focus (intro w hSw; (try dsimp only at hSw); go_simp; (try with_reducible rfl); done)); (try simp only [put_rules]))
  (refine wpAnyH_done (by kernel_rfl) ?_ _)
  go_wp2_with fail
  go_ret
  exact ⟨ret_int hR.out, hB⟩
end Go.Proofs.YtcapiijpfoapkaaDoor
