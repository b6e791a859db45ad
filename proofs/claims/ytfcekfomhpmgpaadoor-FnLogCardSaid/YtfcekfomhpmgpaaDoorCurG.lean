/- Contracts: the input of an append. -/
import Derived.Test.YtfcekfomhpmgpaaDoorCurF
namespace Go.Proofs.YtfcekfomhpmgpaaDoor
open Go.RowKit

/-- What there is behind the drawing of the log. -/
def AddRel (w w1 : World) (A : Nat) (ca : Option Addr) (cl cc : Nat) (N : Nat) (d p : ByteArray) (c : Int) (wr : World) : Prop :=
  d.size + p.size ≤ N ∧ Sp w wr [Box w1.heap.size 31 #[.string d, .string p, .int .i64 c], CurA A (w.heap.size + 2) ca cl cc, Box (w.heap.size + 1) 27 #[.string ⟨#[]⟩, .string ⟨#[]⟩], Box w.heap.size 31 #[.string ⟨#[]⟩, .string ⟨#[]⟩, .int .i64 0]]

set_option maxRecDepth 100000 in
set_option maxHeartbeats 4000000 in
theorem drawAppendRecord_any (ca : Option Addr) (cl cc : Nat) (w : World) (hc : CodeOk w ca cl) (hs : cl ≤ 65536) :
    Calls Tryd.prog 51 #[.slice ca cl cc] w fun e w' => ∃ (d p : ByteArray) (c : Int) (q r : ByteArray), d.size + p.size ≤ 40000 ∧ q.size ≤ 20 ∧ r.size ≤ 20 ∧ e = .returned (.tuple #[.agg #[.string d, .string p, .int .i64 c], .agg #[.string q, .string r]]) ∧ Below w.heap.size w w' := by
  have S0 := (((Sp.start w).alloc_box #[.string ⟨#[]⟩, .string ⟨#[]⟩, .int .i64 0] 31).alloc_box #[.string ⟨#[]⟩, .string ⟨#[]⟩] 27).alloc_cur ca cl cc
  simp only [World.size_alloc] at S0
  obtain ⟨hi, hk⟩ := S0.cur (A' := 120) (i := 0) rfl hc hs
  replace hk := Lib.hid hk
  replace hi := Lib.hid hi
  clear S0
  go_enter Tryd.func51, Tryd.ntmps51
  go_wp2_with fail
  refine (cur_anyLog 0 (w.heap.size + 2) ca cl cc _ hi.out (by omega)).mono ?_
  rintro e w1 ⟨_, ⟨d, p, c, hdp, _, _, rfl⟩, rfl, hi1, hc1⟩
  have S1 := (hk.out w1 hi1 hc1).alloc_box #[.string d, .string p, .int .i64 c] 31
  obtain ⟨hi2, hk2⟩ := S1.cur (A' := 122) (i := 1) rfl hc hs
  replace hk2 := Lib.hid hk2
  replace hi2 := Lib.hid hi2
  clear hk hi hi1 hc1 S1
  go_wp2_with fail
  refine (cur_one 40 120 (w.heap.size + 2) ca cl cc _ hi2.out (by omega) (by omega)).mono ?_
  rintro e w2 ⟨_, ⟨t, rfl⟩, rfl, hi3, hc3⟩
  have S3 := hk2.out w2 hi3 hc3
  clear hk2 hi2 hi3 hc3
  cases t
  · have hfin : ∃ dd pp cf, AddRel w w1 122 ca cl cc 40000 dd pp cf w2 := ⟨d, p, c, by omega, S3⟩
    clear S3
    obtain ⟨dd, pp, cf, hsz, S5⟩ := hfin
    have e0 := S5.cell (i := 0) rfl (o := 0) rfl
    have e1 := S5.cell (i := 0) rfl (o := 1) rfl
    have e2 := S5.cell (i := 0) rfl (o := 2) rfl
    replace S5 := Lib.hid S5
    go_wp2_with fail
    refine wp_region_held_drew (S := (fun w' => w'.cell? ⟨w1.heap.size, 0, none⟩ = some (.string dd) ∧ w'.cell? ⟨w1.heap.size, 1, none⟩ = some (.string pp) ∧ w'.cell? ⟨w1.heap.size, 2, none⟩ = some (.int .i64 cf))) (by kernel_rfl) ?_ ?_
    · exact ⟨e0, e1, e2⟩
    intro hS
    (refine wpAnyH_take (i := 0) (v := ?_) rfl (by kernel_rfl) (by kernel_rfl) (by kernel_rfl) (fun _ _ _ h => h) (Or.inl ⟨by rfl, ?_⟩) (by assumption) ?_; rotate_left; (focus (intro w hSw; (try dsimp only at hSw); go_simp; (try with_reducible rfl); done)); (try simp only [put_rules]))
    (refine wpAnyH_take (i := 1) (v := ?_) rfl (by kernel_rfl) (by kernel_rfl) (by kernel_rfl) (fun _ _ _ h => h) (Or.inl ⟨by rfl, ?_⟩) (by assumption) ?_; rotate_left; (focus (intro w hSw; (try dsimp only at hSw); go_simp; (try with_reducible rfl); done)); (try simp only [put_rules]))
    (refine wpAnyH_ready (rs := [2]) (by kernel_rfl) (by simp) ?_; refine AllReadyH.cons rfl (fun K hK => ?_) AllReadyH.nil)
    go_simp
    go_at_call 86
    obtain ⟨hi6, hk6⟩ := (S5.out.grow (bdr (bb _))).cur (A' := 140) (i := 1) rfl hc hs
    refine (cur_logRecord 122 (w.heap.size + 2) ca cl cc _ hi6 (by omega)).mono ?_
    rintro e w6 ⟨_, ⟨q, r, hq, hr, rfl⟩, rfl, hi7, hc7⟩
    have S7 := hk6 w6 (hi7.mono (by omega)) hc7
    clear S5 hk6 hi6 hi7 hc7 e0 e1 e2
    have e0 := S7.cell (i := 0) rfl (o := 0) rfl
    have e1 := S7.cell (i := 0) rfl (o := 1) rfl
    have e2 := S7.cell (i := 0) rfl (o := 2) rfl
    have r0 := S7.cell (i := 3) rfl (o := 0) rfl
    have r1 := S7.cell (i := 3) rfl (o := 1) rfl
    have r2 := S7.cell (i := 3) rfl (o := 2) rfl
    have q0 := S7.frozen (i := 3) rfl 0
    have q1 := S7.frozen (i := 3) rfl 1
    have q2 := S7.frozen (i := 3) rfl 2
    have u0 := S7.cell (i := 2) rfl (o := 0) rfl
    have u1 := S7.cell (i := 2) rfl (o := 1) rfl
    have y0 := S7.frozen (i := 2) rfl 0
    have y1 := S7.frozen (i := 2) rfl 1
    have T := ((S7.store (i := 3) rfl 0 (.string dd)).store (i := 3) rfl 1 (.string pp)).store (i := 3) rfl 2 (.int .i64 cf)
    have t0 := Lib.hid (T.cell (i := 0) rfl (o := 0) rfl)
    have t1 := Lib.hid (T.cell (i := 0) rfl (o := 1) rfl)
    have t2 := Lib.hid (T.cell (i := 0) rfl (o := 2) rfl)
    have T' := (T.store (i := 2) rfl 0 (.string q)).store (i := 2) rfl 1 (.string r)
    have v0 := Lib.hid (T'.cell (i := 0) rfl (o := 0) rfl)
    have v1 := Lib.hid (T'.cell (i := 0) rfl (o := 1) rfl)
    have v2 := Lib.hid (T'.cell (i := 0) rfl (o := 2) rfl)
    have hB := Lib.hid T'.below
    clear T T' S7
    go_wp2_with fail
    refine hK.out _ _ ⟨e0, e1, e2⟩ (fun hS2 => ?_)
    clear hK hS
    (try simp only [put_rules])
    (refine wpAnyH_ready (rs := [3]) (by kernel_rfl) (by simp) ?_; refine AllReadyH.cons rfl (fun K hK => ?_) AllReadyH.nil)
    go_simp
    refine hK.out _ _ ⟨t0.out, t1.out, t2.out⟩ (fun hS3 => ?_)
    clear hK hS2
    (try simp only [put_rules])
    (refine wpAnyH_ready (rs := [4]) (by kernel_rfl) (by simp) ?_; refine AllReadyH.cons rfl (fun K hK => ?_) AllReadyH.nil)
    go_simp
    refine hK.out _ _ ⟨v0.out, v1.out, v2.out⟩ (fun hS4 => ?_)
    clear hK hS3
    (try simp only [put_rules])
    (refine wpAnyH_done (by kernel_rfl) ?_ _)
    go_wp2_with fail
    exact bodyPost_ret (v := .tuple #[.agg #[.string dd, .string pp, .int .i64 cf], .agg #[.string q, .string r]]) (by simp [results, Tryd.results51, go_sem, r0, r1, r2, u0, u1]) rfl
      ⟨dd, pp, cf, q, r, hsz, hq, hr, rfl, hB.out⟩
  · have e0 := S3.cell (i := 0) rfl (o := 0) rfl
    have e1 := S3.cell (i := 0) rfl (o := 1) rfl
    have e2 := S3.cell (i := 0) rfl (o := 2) rfl
    have f0 := S3.frozen (i := 0) rfl 0
    have f1 := S3.frozen (i := 0) rfl 1
    have f2 := S3.frozen (i := 0) rfl 2
    have S4 := ((S3.store (i := 0) rfl 0 (.string ⟨#[]⟩)).store (i := 0) rfl 1 (.string ⟨#[]⟩)).store (i := 0) rfl 2 (.int .i64 0)
    obtain ⟨hi4, hk4⟩ := S4.cur (A' := 126) (i := 1) rfl hc hs
    replace hk4 := Lib.hid hk4
    replace hi4 := Lib.hid hi4
    clear S3 S4
    go_wp2_with fail
    refine (cur_pick_at (lo := 0) (hi := 1) hi4.out (by omega) (by omega) (by omega) (by omega) (by omega)).mono ?_
    rintro e w4 ⟨_, ⟨x, hx0, hx1, rfl⟩, rfl, hi5, hc5⟩
    have S5 := hk4.out w4 (hi5.mono (by omega)) hc5
    clear hk4 hi4 hi5 hc5 e0 e1 e2 f0 f1 f2
    have hw1 : IntKind.i64.wrap (59 + x) = 59 + x := IntWalk.i64_in _ (by omega)
    obtain ⟨n, hn⟩ := Int.eq_ofNat_of_zero_le (show 0 ≤ 59 + x by omega)
    have hn6 : n ≤ 60 := by omega
    rw [hn] at hw1
    go_wp2_with fail
    go_loopw [6] (fun z wr => ∃ k : Nat, k ≤ 60 ∧ z = .int .i64 k ∧ ∃ (dd pp : ByteArray) (cf : Int), 0 ≤ cf ∧ cf ≤ 60 - (k : Int) ∧ AddRel w w1 126 ca cl cc (500 * (60 - k)) dd pp cf wr) (fun z _ => (intOf z).toNat)
    case atStart => exact ⟨n, hn6, by first | rfl | rw [hn], ⟨#[]⟩, ⟨#[]⟩, 0, Int.le_refl 0, by omega, Nat.zero_le _, S5⟩
    case round =>
      obtain ⟨k, hk, rfl, dd, pp, cf, hcf0, hcf1, hsz, S5⟩ := hrel
      by_cases hlt : 0 < k
      · have hlt' : (0 : Int) < (k : Int) := by omega
        have e0 := S5.cell (i := 0) rfl (o := 0) rfl
        have e1 := S5.cell (i := 0) rfl (o := 1) rfl
        have e2 := S5.cell (i := 0) rfl (o := 2) rfl
        replace S5 := Lib.hid S5
        have hadd := addB_size (d := bl dd) (p := bl pp) (q := bl ⟨#[120]⟩) (r := bl ⟨#[]⟩) hcf0
        go_wp2_with fail
        refine (specAppendRecord_any dd pp ⟨#[120]⟩ ⟨#[]⟩ cf _ (by omega) (by omega) (by decide) (by decide)).mono ?_
        generalize addB (bl dd) (bl pp) cf (bl ⟨#[120]⟩) (bl ⟨#[]⟩) = ad at hadd ⊢
        obtain ⟨p2, c2, co⟩ := ad
        rintro e w6 ⟨rfl, hb6⟩
        have S6 := S5.out.grow hb6
        clear S5 hb6 e0 e1 e2
        have hp2 : p2.length ≤ pp.size + 400 := hadd.1
        have hc2 : 0 ≤ c2 ∧ c2 ≤ cf + 1 := hadd.2
        clear hadd
        have e0 := S6.cell (i := 0) rfl (o := 0) rfl
        have e1 := S6.cell (i := 0) rfl (o := 1) rfl
        have e2 := S6.cell (i := 0) rfl (o := 2) rfl
        have f0 := S6.frozen (i := 0) rfl 0
        have f1 := S6.frozen (i := 0) rfl 1
        have f2 := S6.frozen (i := 0) rfl 2
        have S7 := Lib.hid (((S6.store (i := 0) rfl 0 (.string dd)).store (i := 0) rfl 1 (.string (ms p2))).store (i := 0) rfl 2 (.int .i64 c2))
        clear S6
        go_wp2_with fail
        go_roundw
        case rel => exact ⟨k - 1, by omega, by simp; omega, dd, ms p2, c2, hc2.1, by omega, by rw [ms_size]; omega, S7.out⟩
        case measure => simp [intOf]; omega
      · obtain rfl : k = 0 := by omega
        have hfin : ∃ dd pp cf, AddRel w w1 126 ca cl cc 40000 dd pp cf wr := ⟨dd, pp, cf, by omega, S5⟩
        clear S5 hsz
        obtain ⟨dd, pp, cf, hsz, S5⟩ := hfin
        have e0 := S5.cell (i := 0) rfl (o := 0) rfl
        have e1 := S5.cell (i := 0) rfl (o := 1) rfl
        have e2 := S5.cell (i := 0) rfl (o := 2) rfl
        replace S5 := Lib.hid S5
        go_wp2_with fail
        refine wp_region_held_drew (S := (fun w' => w'.cell? ⟨w1.heap.size, 0, none⟩ = some (.string dd) ∧ w'.cell? ⟨w1.heap.size, 1, none⟩ = some (.string pp) ∧ w'.cell? ⟨w1.heap.size, 2, none⟩ = some (.int .i64 cf))) (by kernel_rfl) ?_ ?_
        · exact ⟨e0, e1, e2⟩
        intro hS
        (refine wpAnyH_take (i := 0) (v := ?_) rfl (by kernel_rfl) (by kernel_rfl) (by kernel_rfl) (fun _ _ _ h => h) (Or.inl ⟨by rfl, ?_⟩) (by assumption) ?_; rotate_left; (focus (intro w hSw; (try dsimp only at hSw); go_simp; (try with_reducible rfl); done)); (try simp only [put_rules]))
        (refine wpAnyH_take (i := 1) (v := ?_) rfl (by kernel_rfl) (by kernel_rfl) (by kernel_rfl) (fun _ _ _ h => h) (Or.inl ⟨by rfl, ?_⟩) (by assumption) ?_; rotate_left; (focus (intro w hSw; (try dsimp only at hSw); go_simp; (try with_reducible rfl); done)); (try simp only [put_rules]))
        (refine wpAnyH_ready (rs := [2]) (by kernel_rfl) (by simp) ?_; refine AllReadyH.cons rfl (fun K hK => ?_) AllReadyH.nil)
        go_simp
        go_at_call 86
        obtain ⟨hi6, hk6⟩ := (S5.out.grow (bdr (bb _))).cur (A' := 140) (i := 1) rfl hc hs
        refine (cur_logRecord 126 (w.heap.size + 2) ca cl cc _ hi6 (by omega)).mono ?_
        rintro e w6 ⟨_, ⟨q, r, hq, hr, rfl⟩, rfl, hi7, hc7⟩
        have S7 := hk6 w6 (hi7.mono (by omega)) hc7
        clear S5 hk6 hi6 hi7 hc7 e0 e1 e2
        have e0 := S7.cell (i := 0) rfl (o := 0) rfl
        have e1 := S7.cell (i := 0) rfl (o := 1) rfl
        have e2 := S7.cell (i := 0) rfl (o := 2) rfl
        have r0 := S7.cell (i := 3) rfl (o := 0) rfl
        have r1 := S7.cell (i := 3) rfl (o := 1) rfl
        have r2 := S7.cell (i := 3) rfl (o := 2) rfl
        have q0 := S7.frozen (i := 3) rfl 0
        have q1 := S7.frozen (i := 3) rfl 1
        have q2 := S7.frozen (i := 3) rfl 2
        have u0 := S7.cell (i := 2) rfl (o := 0) rfl
        have u1 := S7.cell (i := 2) rfl (o := 1) rfl
        have y0 := S7.frozen (i := 2) rfl 0
        have y1 := S7.frozen (i := 2) rfl 1
        have T := ((S7.store (i := 3) rfl 0 (.string dd)).store (i := 3) rfl 1 (.string pp)).store (i := 3) rfl 2 (.int .i64 cf)
        have t0 := Lib.hid (T.cell (i := 0) rfl (o := 0) rfl)
        have t1 := Lib.hid (T.cell (i := 0) rfl (o := 1) rfl)
        have t2 := Lib.hid (T.cell (i := 0) rfl (o := 2) rfl)
        have T' := (T.store (i := 2) rfl 0 (.string q)).store (i := 2) rfl 1 (.string r)
        have v0 := Lib.hid (T'.cell (i := 0) rfl (o := 0) rfl)
        have v1 := Lib.hid (T'.cell (i := 0) rfl (o := 1) rfl)
        have v2 := Lib.hid (T'.cell (i := 0) rfl (o := 2) rfl)
        have hB := Lib.hid T'.below
        clear T T' S7
        go_wp2_with fail
        refine hK.out _ _ ⟨e0, e1, e2⟩ (fun hS2 => ?_)
        clear hK hS
        (try simp only [put_rules])
        (refine wpAnyH_ready (rs := [3]) (by kernel_rfl) (by simp) ?_; refine AllReadyH.cons rfl (fun K hK => ?_) AllReadyH.nil)
        go_simp
        refine hK.out _ _ ⟨t0.out, t1.out, t2.out⟩ (fun hS3 => ?_)
        clear hK hS2
        (try simp only [put_rules])
        (refine wpAnyH_ready (rs := [4]) (by kernel_rfl) (by simp) ?_; refine AllReadyH.cons rfl (fun K hK => ?_) AllReadyH.nil)
        go_simp
        refine hK.out _ _ ⟨v0.out, v1.out, v2.out⟩ (fun hS4 => ?_)
        clear hK hS3
        (try simp only [put_rules])
        (refine wpAnyH_done (by kernel_rfl) ?_ _)
        go_wp2_with fail
        exact bodyPost_ret (v := .tuple #[.agg #[.string dd, .string pp, .int .i64 cf], .agg #[.string q, .string r]]) (by simp [results, Tryd.results51, go_sem, r0, r1, r2, u0, u1]) rfl
          ⟨dd, pp, cf, q, r, hsz, hq, hr, rfl, hB.out⟩
end Go.Proofs.YtfcekfomhpmgpaaDoor
