/- Contracts: logs that are drawn. -/
import Derived.Test.YtfcekfomhpmgpaaDoorCurC
import Derived.Test.YtfcekfomhpmgpaaDoorLogE
import Derived.Test.YtfcekfomhpmgpaaDoorHTailB
namespace Go.Proofs.YtfcekfomhpmgpaaDoor
open Go.RowKit

/-- A log of moderate size. -/
def LogR (n : Nat) (v : Value) : Prop := ∃ (d p : ByteArray) (c : Int), d.size + p.size ≤ n ∧ -1 ≤ c ∧ c ≤ 1000 ∧ v = .agg #[.string d, .string p, .int .i64 c]
theorem addB_size {d p q r : List UInt8} {c : Int} (hc : 0 ≤ c) : (addB d p c q r).1.length ≤ p.length + 400 ∧ 0 ≤ (addB d p c q r).2.1 ∧ (addB d p c q r).2.1 ≤ c + 1 := by
  unfold addB
  split
  · rename_i h
    simp only [Bool.and_eq_true] at h
    split
    · exact ⟨by show p.length ≤ p.length + 400; omega, hc, by show c ≤ c + 1; omega⟩
    · have h1 := validB_count h.1
      have h2 := lineB_len (k := c) (c := q) (r := r) hc (by omega) h.2
      exact ⟨by rw [List.length_append]; omega, by simp; omega, by simp⟩
  · exact ⟨by simp, hc, by show c ≤ c + 1; omega⟩
theorem syncB_size {d p : List UInt8} {c : Int} (hc : 0 ≤ c) : (syncB d p c).1.length ≤ d.length + p.length ∧ 0 ≤ (syncB d p c).2.1 ∧ (syncB d p c).2.1 ≤ c := by
  unfold syncB
  split
  · exact ⟨by simp, hc, by simp⟩
  · exact ⟨by simp, by simp, hc⟩

/-- What the drawing of a log has made so far. -/
def LogRel (A g : Nat) (ca : Option Addr) (cl cc : Nat) (k : Nat) (w wr : World) : Prop :=
  ∃ (d p : ByteArray) (c : Int), d.size + p.size ≤ 500 * (6 - k) ∧ 0 ≤ c ∧ c ≤ 6 - k ∧ CurIs (A + 2 + 12 * (6 - k)) g ca cl cc wr ∧
    SpG [g] w wr [Box (w.heap.size + 1) 31 #[.string d, .string p, .int .i64 c], Box w.heap.size 31 #[.string ⟨#[]⟩, .string ⟨#[]⟩, .int .i64 0]]

set_option maxRecDepth 100000 in
set_option maxHeartbeats 4000000 in
theorem cur_log (A g : Nat) (ca : Option Addr) (cl cc : Nat) (w : World) (h : CurIs A g ca cl cc w) (hA : A ≤ 70000000) :
    Calls Tryd.prog 87 #[.pointer (some ⟨g, 0, none⟩)] w (CurPost (fun v => LogR 3000 v ∧ ∃ (x y : Value) (c : Int), v = .agg #[x, y, .int .i64 c] ∧ 0 ≤ c) (A + 100) g ca cl cc w) := by
  have hg := h.lt
  have S0 := ((SpG.start (G := [g]) w (by simpa using hg)).alloc_box #[.string ⟨#[]⟩, .string ⟨#[]⟩, .int .i64 0] 31).alloc_box #[.string ⟨#[]⟩, .string ⟨#[]⟩, .int .i64 0] 31
  simp only [World.size_alloc] at S0
  replace S0 := Lib.hid S0
  go_enter Tryd.func87, Tryd.ntmps87
  go_wp2_with fail
  refine (cur_pick_at (lo := 0) (hi := 6) (h.grow (by repeat (first | exact bb _ | assumption | refine bal ?_ _ | refine bdr ?_ | refine bdn ?_ _ | refine bst ?_ (by simp <;> omega) _ | refine btr ?_ (by assumption)))) (by omega) (by omega) (by omega) (by omega) (by omega)).mono ?_
  rintro e w1 ⟨_, ⟨x, hx0, hx1, rfl⟩, rfl, hi1, hc1⟩
  obtain ⟨n, rfl⟩ := Int.eq_ofNat_of_zero_le hx0
  have hn : n ≤ 6 := by omega
  have S1 := Lib.hid (S0.out.chg hc1)
  clear S0 hc1 hx0 hx1
  go_wp2_with fail
  go_loopw [4] (fun z wr => ∃ k : Nat, k ≤ 6 ∧ z = .int .i64 k ∧ LogRel A g ca cl cc k w wr) (fun z _ => (intOf z).toNat)
  case atStart => exact ⟨n, hn, rfl, ⟨#[]⟩, ⟨#[]⟩, 0, Nat.zero_le _, Int.le_refl 0, by omega, hi1.mono (by omega), S1.out⟩
  case round =>
    obtain ⟨k, hk, rfl, d, p, c, hsz, hc0, hck, hi, HS⟩ := hrel
    have e0 := HS.cell (i := 0) rfl (o := 0) rfl
    have e1 := HS.cell (i := 0) rfl (o := 1) rfl
    have e2 := HS.cell (i := 0) rfl (o := 2) rfl
    replace HS := Lib.hid HS
    by_cases hlt : 0 < k
    · have hlt' : (0 : Int) < (k : Int) := by omega
      go_wp2_with fail
      refine wp_region_tailW (S := (fun w' => w'.cell? ⟨w.heap.size + 1, 0, none⟩ = some (.string d) ∧ w'.cell? ⟨w.heap.size + 1, 1, none⟩ = some (.string p) ∧ w'.cell? ⟨w.heap.size + 1, 2, none⟩ = some (.int .i64 c))) 4 (by kernel_rfl) (by kernel_rfl) ?_ ?_
      · exact ⟨e0, e1, e2⟩
      intro hS
      (refine walkW_take (i := 0) (v := ?_) rfl (by kernel_rfl) (by decide) (by kernel_rfl) (by kernel_rfl) (fun _ _ _ h => h) (Or.inl ⟨by rfl, ?_⟩) (by assumption) ?_; rotate_left; (focus (intro w hSw; (try dsimp only at hSw); go_simp; (try with_reducible rfl); done)); (try simp only [put_rules]))
      (refine walkW_take (i := 1) (v := ?_) rfl (by kernel_rfl) (by decide) (by kernel_rfl) (by kernel_rfl) (fun _ _ _ h => h) (Or.inl ⟨by rfl, ?_⟩) (by assumption) ?_; rotate_left; (focus (intro w hSw; (try dsimp only at hSw); go_simp; (try with_reducible rfl); done)); (try simp only [put_rules]))
      (refine walkT_ready (rs := [2]) (by kernel_rfl) (by simp) (by decide) ?_; refine AllT.cons rfl (fun K hK => ?_) AllT.nil)
      go_simp
      go_at_call 86
      refine (cur_logRecord _ g ca cl cc _ (hi.grow (bdr (bb _))) (by omega)).mono ?_
      rintro e w2 ⟨_, ⟨q, r, hq, hr, rfl⟩, rfl, hi2, hc2⟩
      have S2 := ((HS.out.grow (bdr (bb _))).chg hc2)
      have j0 := S2.cell (i := 0) rfl (o := 0) rfl
      have j1 := S2.cell (i := 0) rfl (o := 1) rfl
      have j2 := S2.cell (i := 0) rfl (o := 2) rfl
      replace S2 := Lib.hid S2
      clear HS hc2 e0 e1 e2
      go_wp2_with fail
      refine hK.out _ _ ⟨j0, j1, j2⟩ (fun hS2 => ?_)
      clear hK hS
      (try simp only [put_rules])
      (refine walkT_ready (rs := [3]) (by kernel_rfl) (by simp) (by decide) ?_; refine AllT.cons rfl (fun K hK => ?_) AllT.nil)
      go_simp
      go_at_call 30
      have hadd := addB_size (d := bl d) (p := bl p) (q := bl q) (r := bl r) hc0
      refine (specAppendRecord_any d p q r c _ (by omega) (by omega) (by omega) (by omega)).mono ?_
      generalize addB (bl d) (bl p) c (bl q) (bl r) = ad at hadd ⊢
      obtain ⟨p2, c2, co⟩ := ad
      rintro e w3 ⟨rfl, hb3⟩
      have S3 := S2.out.grow hb3
      have i0 := S3.cell (i := 0) rfl (o := 0) rfl
      have i1 := S3.cell (i := 0) rfl (o := 1) rfl
      have i2 := S3.cell (i := 0) rfl (o := 2) rfl
      have z0 := S3.frozen (i := 0) rfl 0
      have z1 := S3.frozen (i := 0) rfl 1
      have z2 := S3.frozen (i := 0) rfl 2
      have hi3 := Lib.hid (hi2.grow hb3)
      replace S3 := Lib.hid S3
      clear S2 hb3 j0 j1 j2 hi2
      go_wp2_with fail
      refine hK.out _ _ ⟨i0, i1, i2⟩ (fun hS3 => ?_)
      clear hK hS2
      (try simp only [put_rules])
      (refine walkW_done (by kernel_rfl) (fun hHeld => ?_))
      (refine wpAnyH_take (i := 4) (v := ?_) rfl (by kernel_rfl) (by kernel_rfl) (by kernel_rfl) (fun _ _ _ h => h) (Or.inl ⟨by rfl, ?_⟩) (by assumption) ?_; rotate_left; (focus (intro w hSw; (try dsimp only at hSw); go_simp; (try with_reducible rfl); done)); (try simp only [put_rules]))
      (refine wpAnyH_take (i := 5) (v := ?_) rfl (by kernel_rfl) (by kernel_rfl) (by kernel_rfl) (fun _ _ _ h => h) (Or.inl ⟨by rfl, ?_⟩) (by assumption) ?_; rotate_left; (focus (intro w hSw; (try dsimp only at hSw); go_simp; (try with_reducible rfl); done)); (try simp only [put_rules]))
      (refine wpAnyH_take (i := 6) (v := ?_) rfl (by kernel_rfl) (by kernel_rfl) (by kernel_rfl) (fun _ _ _ h => h) (Or.inl ⟨by rfl, ?_⟩) (by assumption) ?_; rotate_left; (focus (intro w hSw; (try dsimp only at hSw); go_simp; (try with_reducible rfl); done)); (try simp only [put_rules]))
      (refine wpAnyH_ready (rs := [7]) (by kernel_rfl) (by simp) ?_; refine AllReadyH.cons rfl (fun K hK => ?_) AllReadyH.nil)
      go_simp
      refine hK.out _ _ trivial (fun hHeld2 => ?_)
      clear hK hHeld
      (refine wpAnyH_done (by kernel_rfl) ?_ _)
      have S4 := ((S3.out.store (i := 0) rfl 0 (.string d)).store (i := 0) rfl 1 (.string (ms p2))).store (i := 0) rfl 2 (.int .i64 c2)
      have hi4 := h.stay hi3.out (W' := ((w3.setCell ⟨w.heap.size + 1, 0, none⟩ (.string d)).setCell ⟨w.heap.size + 1, 1, none⟩ (.string (ms p2))).setCell ⟨w.heap.size + 1, 2, none⟩ (.int .i64 c2)) (fun k hk => by rw [Below.heap_setCell _ _ _ _ (show k ≠ w.heap.size + 1 by omega), Below.heap_setCell _ _ _ _ (show k ≠ w.heap.size + 1 by omega), Below.heap_setCell _ _ _ _ (show k ≠ w.heap.size + 1 by omega)])
      replace S4 := Lib.hid S4
      clear S3 hi3 hS3
      have hp2 : p2.length ≤ p.size + 400 := hadd.1
      have hc2 : 0 ≤ c2 ∧ c2 ≤ c + 1 := hadd.2
      clear hadd
      go_wp2_with fail
      refine (cur_one 4 _ g ca cl cc _ hi4 (by omega) (by omega)).mono ?_
      rintro e w5 ⟨_, ⟨t, rfl⟩, rfl, hi5, hc5⟩
      have S5 := S4.out.chg hc5
      have e0 := S5.cell (i := 0) rfl (o := 0) rfl
      have e1 := S5.cell (i := 0) rfl (o := 1) rfl
      have e2 := S5.cell (i := 0) rfl (o := 2) rfl
      replace S5 := Lib.hid S5
      clear S4 hc5 i0 i1 i2 z0 z1 z2 hi4
      cases t
      · go_wp2_with fail
        go_roundw
        case rel => exact ⟨k - 1, by omega, by simp; omega, d, ms p2, c2, by rw [ms_size]; omega, hc2.1, by omega, hi5.mono (by omega), S5.out⟩
        case measure => simp [intOf]; omega
      · have hsy := syncB_size (d := bl d) (p := p2) (c := c2) hc2.1
        go_wp2_with fail
        refine (specSyncLog_any d (ms p2) c2 _ (by omega) (by rw [ms_size]; omega)).mono ?_
        rw [bl_ms]
        generalize syncB (bl d) p2 c2 = sd at hsy ⊢
        obtain ⟨d6, c6, o6⟩ := sd
        rintro e w6 ⟨rfl, hb6⟩
        have S6 := S5.out.grow hb6
        have i0 := S6.cell (i := 0) rfl (o := 0) rfl
        have i1 := S6.cell (i := 0) rfl (o := 1) rfl
        have i2 := S6.cell (i := 0) rfl (o := 2) rfl
        have z0 := S6.frozen (i := 0) rfl 0
        have z1 := S6.frozen (i := 0) rfl 1
        have z2 := S6.frozen (i := 0) rfl 2
        have hi6 := Lib.hid (hi5.grow hb6)
        have S7 := Lib.hid (((S6.store (i := 0) rfl 0 (.string (ms d6))).store (i := 0) rfl 1 (.string ⟨#[]⟩)).store (i := 0) rfl 2 (.int .i64 c6))
        have hi7 := Lib.hid (h.stay hi6.out (W' := ((w6.setCell ⟨w.heap.size + 1, 0, none⟩ (.string (ms d6))).setCell ⟨w.heap.size + 1, 1, none⟩ (.string ⟨#[]⟩)).setCell ⟨w.heap.size + 1, 2, none⟩ (.int .i64 c6)) (fun k hk => by rw [Below.heap_setCell _ _ _ _ (show k ≠ w.heap.size + 1 by omega), Below.heap_setCell _ _ _ _ (show k ≠ w.heap.size + 1 by omega), Below.heap_setCell _ _ _ _ (show k ≠ w.heap.size + 1 by omega)]))
        clear S5 S6 hb6 hi5 hi6 e0 e1 e2
        have hd6 : d6.length ≤ d.size + p2.length := hsy.1
        have hc6 : 0 ≤ c6 ∧ c6 ≤ c2 := hsy.2
        clear hsy
        go_wp2_with fail
        go_roundw
        case rel => exact ⟨k - 1, by omega, by simp; omega, ms d6, ⟨#[]⟩, c6, by rw [ms_size]; show d6.length + 0 ≤ _; omega, hc6.1, by omega, hi7.out.mono (by omega), S7.out⟩
        case measure => simp [intOf]; omega
    · obtain rfl : k = 0 := by omega
      have r0 := HS.out.cell (i := 1) rfl (o := 0) rfl
      have r1 := HS.out.cell (i := 1) rfl (o := 1) rfl
      have r2 := HS.out.cell (i := 1) rfl (o := 2) rfl
      have q0 := HS.out.frozen (i := 1) rfl 0
      have q1 := HS.out.frozen (i := 1) rfl 1
      have q2 := HS.out.frozen (i := 1) rfl 2
      have S9 := ((HS.out.store (i := 1) rfl 0 (.string d)).store (i := 1) rfl 1 (.string p)).store (i := 1) rfl 2 (.int .i64 c)
      have hC := Lib.hid S9.1
      replace hi := Lib.hid hi
      clear S9 HS
      go_wp2_with fail
      exact bodyPost_ret (v := .agg #[.string d, .string p, .int .i64 c]) (by simp [results, Tryd.results87, go_sem, r0, r1, r2]) rfl
        ⟨_, ⟨⟨d, p, c, by omega, by omega, by omega, rfl⟩, _, _, c, rfl, hc0⟩, rfl, h.stay (hi.out.mono (by omega)) (fun k hk => by rw [Below.heap_setCell _ _ _ _ (show k ≠ w.heap.size by omega), Below.heap_setCell _ _ _ _ (show k ≠ w.heap.size by omega), Below.heap_setCell _ _ _ _ (show k ≠ w.heap.size by omega)]), hC.out⟩
end Go.Proofs.YtfcekfomhpmgpaaDoor
