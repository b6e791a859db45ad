/- Contracts: whatever log is drawn; the input of a crash. -/
import Derived.Test.YtfcekfomhpmgpaaDoorCurE
namespace Go.Proofs.YtfcekfomhpmgpaaDoor
open Go.RowKit

/-- A log, valid or not. -/
def AnyR (v : Value) : Prop := ∃ (d p : ByteArray) (c : Int), d.size + p.size ≤ 7000 ∧ -1 ≤ c ∧ c ≤ 1001 ∧ v = .agg #[.string d, .string p, .int .i64 c]
theorem CurIs.put {A A' g cl cc b i : Nat} {ca : Option Addr} {w W : World} {ps : List Asn} {t : TypeId} {cs : Array Value} (hi : CurIs A' g ca cl cc W) (h : CurIs A g ca cl cc w) (S : SpG [g] w W ps) (hb : ps[i]? = some (Box b t cs)) (o : Nat) (u : Value) :
    CurIs A' g ca cl cc (W.setCell ⟨b, o, none⟩ u) := h.stay hi fun k hk => Below.heap_setCell _ _ _ _ (show k ≠ b by have := (S.box hb).1; omega)

set_option maxRecDepth 100000 in
set_option maxHeartbeats 4000000 in
theorem cur_anyLog (A g : Nat) (ca : Option Addr) (cl cc : Nat) (w : World) (h : CurIs A g ca cl cc w) (hA : A ≤ 60000000) :
    Calls Tryd.prog 89 #[.pointer (some ⟨g, 0, none⟩)] w (CurPost AnyR (A + 120) g ca cl cc w) := by
  have hg := h.lt
  have S0 := Lib.hid ((SpG.start (G := [g]) w (by simpa using hg)).alloc_box #[.string ⟨#[]⟩, .string ⟨#[]⟩, .int .i64 0] 31)
  go_enter Tryd.func89, Tryd.ntmps89
  go_wp2_with fail
  refine (cur_log A g ca cl cc _ (h.grow (by repeat (first | exact bb _ | assumption | refine bal ?_ _ | refine bdr ?_ | refine bdn ?_ _ | refine bst ?_ (by simp <;> omega) _ | refine btr ?_ (by assumption)))) (by omega)).mono ?_
  rintro e w1 ⟨_, ⟨⟨d, p, c, hdp, hc0, hc1, rfl⟩, _⟩, rfl, hi1, hC1⟩
  have S1 := Lib.hid ((S0.out.chg hC1).alloc_box #[.string d, .string p, .int .i64 c] 31)
  clear S0 hC1
  go_wp2_with fail
  refine (cur_pick_at (lo := 0) (hi := 23) (hi1.grow (by repeat (first | exact bb _ | assumption | refine bal ?_ _ | refine bdr ?_ | refine bdn ?_ _ | refine bst ?_ (by simp <;> omega) _ | refine btr ?_ (by assumption)))) (by omega) (by omega) (by omega) (by omega) (by omega)).mono ?_
  rintro e w2 ⟨_, ⟨x, hx0, hx1, rfl⟩, rfl, hi2, hC2⟩
  have S2 := S1.out.chg hC2
  clear S1 hC2 hi1
  have e0 := S2.cell (i := 0) rfl (o := 0) rfl
  have e1 := S2.cell (i := 0) rfl (o := 1) rfl
  have e2 := S2.cell (i := 0) rfl (o := 2) rfl
  have f0 := S2.frozen (i := 0) rfl 0
  have f1 := S2.frozen (i := 0) rfl 1
  have f2 := S2.frozen (i := 0) rfl 2
  have r0 := S2.cell (i := 1) rfl (o := 0) rfl
  have r1 := S2.cell (i := 1) rfl (o := 1) rfl
  have r2 := S2.cell (i := 1) rfl (o := 2) rfl
  have q0 := S2.frozen (i := 1) rfl 0
  have q1 := S2.frozen (i := 1) rfl 1
  have q2 := S2.frozen (i := 1) rfl 2
  have hne : w1.heap.size ≠ w.heap.size := by
    obtain ⟨F, ⟨F1, F2, _, hd, hp1, hp2⟩, _⟩ := S2.2.2
    obtain ⟨rfl, _⟩ := hp1
    obtain ⟨F3, F4, rfl, _, ⟨rfl, _⟩, _⟩ := hp2
    intro e
    exact hd w1.heap.size (by simp) (by simp [e])
  replace S2 := Lib.hid S2
  replace hi2 := Lib.hid hi2
  by_cases hxa : x = 0
  · subst hxa
    clear hx0 hx1
    have hw1 : IntKind.i64.wrap (c + 1) = c + 1 := IntWalk.i64_in _ (by omega)
    have T1 := S2.out.store (i := 0) rfl 2 (.int .i64 (c + 1))
    have T2 := T1.store (i := 1) rfl 0 (.string d)
    have T3 := T2.store (i := 1) rfl 1 (.string p)
    have T4 := T3.store (i := 1) rfl 2 (.int .i64 (c + 1))
    have hI := Lib.hid ((((hi2.out.put h S2.out (i := 0) rfl 2 (.int .i64 (c + 1))).put h T1 (i := 1) rfl 0 (.string d)).put h T2 (i := 1) rfl 1 (.string p)).put h T3 (i := 1) rfl 2 (.int .i64 (c + 1)))
    have hC := Lib.hid T4.1
    clear T1 T2 T3 T4
    go_wp2_with fail
    exact bodyPost_ret (v := .agg #[.string d, .string p, .int .i64 (c + 1)]) (by simp [results, Tryd.results89, go_sem, r0, r1, r2]) rfl
      ⟨_, ⟨d, p, c + 1, by omega, by omega, by omega, rfl⟩, rfl, hI.out.mono (by omega), hC.out⟩
  by_cases hxb : x = 1
  · subst hxb
    clear hx0 hx1 hxa
    go_wp2_with fail
    refine (cur_spoilt p ⟨#[35, 64, 10, 48, 49]⟩ _ _ ca cl cc _ hi2.out (by omega) (by omega) (by decide) (by decide)).mono ?_
    rintro e w3 ⟨_, ⟨Y, hY, rfl⟩, rfl, hi3, hC3⟩
    have S3 := S2.out.chg hC3
    clear S2 hi2 hC3 e0 e1 e2 f0 f1 f2 r0 r1 r2 q0 q1 q2
    have sY : Hid (Y.size ≤ p.size + 1) := hY
    have e0 := S3.cell (i := 0) rfl (o := 0) rfl
    have e1 := S3.cell (i := 0) rfl (o := 1) rfl
    have e2 := S3.cell (i := 0) rfl (o := 2) rfl
    have f1 := S3.frozen (i := 0) rfl 1
    have r0 := S3.cell (i := 1) rfl (o := 0) rfl
    have r1 := S3.cell (i := 1) rfl (o := 1) rfl
    have r2 := S3.cell (i := 1) rfl (o := 2) rfl
    have q0 := S3.frozen (i := 1) rfl 0
    have q1 := S3.frozen (i := 1) rfl 1
    have q2 := S3.frozen (i := 1) rfl 2
    have T1 := S3.store (i := 0) rfl 1 (.string Y)
    have T2 := T1.store (i := 1) rfl 0 (.string d)
    have T3 := T2.store (i := 1) rfl 1 (.string Y)
    have T4 := T3.store (i := 1) rfl 2 (.int .i64 c)
    have hI := Lib.hid ((((hi3.put h S3 (i := 0) rfl 1 (.string Y)).put h T1 (i := 1) rfl 0 (.string d)).put h T2 (i := 1) rfl 1 (.string Y)).put h T3 (i := 1) rfl 2 (.int .i64 c))
    have hC := Lib.hid T4.1
    clear T1 T2 T3 T4 S3 hi3 hY
    go_wp2_with fail
    exact bodyPost_ret (v := .agg #[.string d, .string Y, .int .i64 c]) (by simp [results, Tryd.results89, go_sem, r0, r1, r2]) rfl
      ⟨_, ⟨d, Y, c, by have := sY.out; omega, by omega, by omega, rfl⟩, rfl, hI.out.mono (by omega), hC.out⟩
  by_cases hxc : x = 2
  · subst hxc
    clear hx0 hx1 hxa hxb
    obtain ⟨Z, hZ⟩ : ∃ Z, ms (bl d ++ bl p) = Z := ⟨_, rfl⟩
    have sZ : Hid (Z.size ≤ 3000) := by unfold Hid; rw [← hZ, ms_size, List.length_append, bl_length, bl_length]; omega
    have a1 := fun w' => run_add (P := Tryd.prog) w' d p (by omega)
    rw [hZ] at a1
    clear hZ
    have T1 := S2.out.store (i := 0) rfl 0 (.string Z)
    have T2 := T1.store (i := 1) rfl 0 (.string Z)
    have T3 := T2.store (i := 1) rfl 1 (.string p)
    have T4 := T3.store (i := 1) rfl 2 (.int .i64 c)
    have hI := Lib.hid ((((hi2.out.put h S2.out (i := 0) rfl 0 (.string Z)).put h T1 (i := 1) rfl 0 (.string Z)).put h T2 (i := 1) rfl 1 (.string p)).put h T3 (i := 1) rfl 2 (.int .i64 c))
    have hC := Lib.hid T4.1
    clear T1 T2 T3 T4
    go_wp2_with fail
    exact bodyPost_ret (v := .agg #[.string Z, .string p, .int .i64 c]) (by simp [results, Tryd.results89, go_sem, r0, r1, r2]) rfl
      ⟨_, ⟨Z, p, c, by have := sZ.out; omega, by omega, by omega, rfl⟩, rfl, hI.out.mono (by omega), hC.out⟩
  · clear hx0 hx1
    have T2 := S2.out.store (i := 1) rfl 0 (.string d)
    have T3 := T2.store (i := 1) rfl 1 (.string p)
    have T4 := T3.store (i := 1) rfl 2 (.int .i64 c)
    have hI := Lib.hid (((hi2.out.put h S2.out (i := 1) rfl 0 (.string d)).put h T2 (i := 1) rfl 1 (.string p)).put h T3 (i := 1) rfl 2 (.int .i64 c))
    have hC := Lib.hid T4.1
    clear T2 T3 T4
    go_wp2_with fail
    exact bodyPost_ret (v := .agg #[.string d, .string p, .int .i64 c]) (by simp [results, Tryd.results89, go_sem, r0, r1, r2]) rfl
      ⟨_, ⟨d, p, c, by omega, by omega, by omega, rfl⟩, rfl, hI.out.mono (by omega), hC.out⟩

set_option maxRecDepth 100000 in
set_option maxHeartbeats 4000000 in
theorem drawCrashLog_any (ca : Option Addr) (cl cc : Nat) (w : World) (hc : CodeOk w ca cl) (hs : cl ≤ 65536) :
    Calls Tryd.prog 54 #[.slice ca cl cc] w fun e w' => ∃ (d p : ByteArray) (c k : Int) (t : Bool), d.size + p.size ≤ 7000 ∧ -1 ≤ k ∧ k ≤ 8000 ∧ e = .returned (.tuple #[.agg #[.string d, .string p, .int .i64 c], .int .i64 k, .bool t]) ∧ Below w.heap.size w w' := by
  have S0 := ((Sp.start w).alloc_box #[.string ⟨#[]⟩, .string ⟨#[]⟩, .int .i64 0] 31).alloc_cur ca cl cc
  simp only [World.size_alloc] at S0
  obtain ⟨hi, hk⟩ := S0.cur (A' := 120) (i := 0) rfl hc hs
  replace hk := Lib.hid hk
  replace hi := Lib.hid hi
  clear S0
  go_enter Tryd.func54, Tryd.ntmps54
  go_wp2_with fail
  refine (cur_anyLog 0 (w.heap.size + 1) ca cl cc _ hi.out (by omega)).mono ?_
  rintro e w1 ⟨_, ⟨d, p, c, hdp, _, _, rfl⟩, rfl, hi1, hc1⟩
  have S1 := (hk.out w1 hi1 hc1).alloc_box #[.string d, .string p, .int .i64 c] 31
  obtain ⟨hi2, hk2⟩ := S1.cur (A' := 122) (i := 1) rfl hc hs
  have e1 := S1.cell (i := 0) rfl (o := 1) rfl
  replace hk2 := Lib.hid hk2
  replace hi2 := Lib.hid hi2
  clear hk hi hi1 hc1 S1
  have hw1 : IntKind.i64.wrap ((p.size : Int) + 3) = (p.size : Int) + 3 := IntWalk.i64_in _ (by omega)
  go_wp2_with fail
  refine (cur_pick_at (lo := 0) (hi := (p.size : Int) + 2) hi2.out (by omega) (by omega) (by omega) (by omega) (by omega)).mono ?_
  rintro e w2 ⟨_, ⟨x, hx0, hx1, rfl⟩, rfl, hi3, hc3⟩
  have S3 := hk2.out w2 hi3 hc3
  clear hk2 hi2 hi3 hc3 e1
  have hw2 : IntKind.i64.wrap (x - 1) = x - 1 := IntWalk.i64_in _ (by omega)
  obtain ⟨k, hk⟩ : ∃ k, x - 1 = k := ⟨_, rfl⟩
  have hkb : -1 ≤ k ∧ k ≤ 8000 := by omega
  rw [hk] at hw2
  have e0 := S3.cell (i := 0) rfl (o := 0) rfl
  have e1 := S3.cell (i := 0) rfl (o := 1) rfl
  have e2 := S3.cell (i := 0) rfl (o := 2) rfl
  replace S3 := Lib.hid S3
  go_wp2_with fail
  refine wp_region_held_drew (S := (fun w' => w'.cell? ⟨w1.heap.size, 0, none⟩ = some (.string d) ∧ w'.cell? ⟨w1.heap.size, 1, none⟩ = some (.string p) ∧ w'.cell? ⟨w1.heap.size, 2, none⟩ = some (.int .i64 c))) (by kernel_rfl) ?_ ?_
  · exact ⟨e0, e1, e2⟩
  intro hS
  (refine wpAnyH_take (i := 0) (v := ?_) rfl (by kernel_rfl) (by kernel_rfl) (by kernel_rfl) (fun _ _ _ h => h) (Or.inl ⟨by rfl, ?_⟩) (by assumption) ?_; rotate_left; (focus (intro w hSw; (try dsimp only at hSw); go_simp; (try with_reducible rfl); done)); (try simp only [put_rules]))
  (refine wpAnyH_take (i := 1) (v := ?_) rfl (by kernel_rfl) (by kernel_rfl) (by kernel_rfl) (fun _ _ _ h => h) (Or.inl ⟨by rfl, ?_⟩) (by assumption) ?_; rotate_left; (focus (intro w hSw; (try dsimp only at hSw); go_simp; (try with_reducible rfl); done)); (try simp only [put_rules]))
  (refine wpAnyH_take (i := 2) (v := ?_) rfl (by kernel_rfl) (by kernel_rfl) (by kernel_rfl) (fun _ _ _ h => h) (Or.inl ⟨by rfl, ?_⟩) (by assumption) ?_; rotate_left; (focus (intro w hSw; (try dsimp only at hSw); go_simp; (try with_reducible rfl); done)); (try simp only [put_rules]))
  (refine wpAnyH_ready (rs := [3]) (by kernel_rfl) (by simp) ?_; refine AllReadyH.cons rfl (fun K hK => ?_) AllReadyH.nil)
  go_simp
  go_at_call 76
  obtain ⟨hi4, hk4⟩ := (S3.out.grow (bdr (bb _))).cur (A' := 124) (i := 1) rfl hc hs
  refine (cur_one 2 122 (w.heap.size + 1) ca cl cc _ hi4 (by omega) (by omega)).mono ?_
  rintro e w4 ⟨_, ⟨t, rfl⟩, rfl, hi5, hc5⟩
  have S5 := hk4 w4 hi5 hc5
  clear S3 hk4 hi4 hi5 hc5 e0 e1 e2
  have e0 := S5.cell (i := 0) rfl (o := 0) rfl
  have e1 := S5.cell (i := 0) rfl (o := 1) rfl
  have e2 := S5.cell (i := 0) rfl (o := 2) rfl
  have r0 := S5.cell (i := 2) rfl (o := 0) rfl
  have r1 := S5.cell (i := 2) rfl (o := 1) rfl
  have r2 := S5.cell (i := 2) rfl (o := 2) rfl
  have q0 := S5.frozen (i := 2) rfl 0
  have q1 := S5.frozen (i := 2) rfl 1
  have q2 := S5.frozen (i := 2) rfl 2
  have T := ((S5.store (i := 2) rfl 0 (.string d)).store (i := 2) rfl 1 (.string p)).store (i := 2) rfl 2 (.int .i64 c)
  have t0 := Lib.hid (T.cell (i := 0) rfl (o := 0) rfl)
  have t1 := Lib.hid (T.cell (i := 0) rfl (o := 1) rfl)
  have t2 := Lib.hid (T.cell (i := 0) rfl (o := 2) rfl)
  have hB := Lib.hid T.below
  clear T
  clear S5
  go_wp2_with fail
  refine hK.out _ _ ⟨e0, e1, e2⟩ (fun hS2 => ?_)
  clear hK hS
  (try simp only [put_rules])
  (refine wpAnyH_ready (rs := [4]) (by kernel_rfl) (by simp) ?_; refine AllReadyH.cons rfl (fun K hK => ?_) AllReadyH.nil)
  go_simp
  refine hK.out _ _ ⟨t0.out, t1.out, t2.out⟩ (fun hS3 => ?_)
  clear hK hS2
  (try simp only [put_rules])
  (refine wpAnyH_ready (rs := [5]) (by kernel_rfl) (by simp) ?_; refine AllReadyH.cons rfl (fun K hK => ?_) AllReadyH.nil)
  go_simp
  refine hK.out _ _ hS3 (fun hS4 => ?_)
  clear hK hS3
  (try simp only [put_rules])
  (refine wpAnyH_ready (rs := [6]) (by kernel_rfl) (by simp) ?_; refine AllReadyH.cons rfl (fun K hK => ?_) AllReadyH.nil)
  go_simp
  refine hK.out _ _ hS4 (fun hS5 => ?_)
  clear hK hS4
  (try simp only [put_rules])
  (refine wpAnyH_done (by kernel_rfl) ?_ _)
  go_wp2_with fail
  exact bodyPost_ret (v := .tuple #[.agg #[.string d, .string p, .int .i64 c], .int .i64 k, .bool t]) (by simp [results, Tryd.results54, go_sem, r0, r1, r2]) rfl
    ⟨d, p, c, k, t, hdp, hkb.1, hkb.2, rfl, hB.out⟩
end Go.Proofs.YtfcekfomhpmgpaaDoor
