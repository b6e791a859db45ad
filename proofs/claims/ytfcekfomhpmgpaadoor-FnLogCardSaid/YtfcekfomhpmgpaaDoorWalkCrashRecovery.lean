/- The walk of FnCrashRecovery. -/
import Derived.Test.YtfcekfomhpmgpaaDoorLogI
import Derived.Test.YtfcekfomhpmgpaaDoorLinB
import Derived.Test.YtfcekfomhpmgpaaDoorCurF
import Derived.Test.YtfcekfomhpmgpaaDoorWalkLogLines
namespace Go.Proofs.YtfcekfomhpmgpaaDoor
open Go.RowKit

theorem recsB_short (d p : List UInt8) (c : Int) : (recsB d p c).length ≤ 60 := by
  unfold recsB
  split
  · exact (openB_len 60 _).1
  · simp

set_option maxRecDepth 100000 in
set_option maxHeartbeats 8000000 in
theorem FnCrashRecovery_walk (ca : Option Addr) (cl cc : Nat) (a : Addr) (w : World) (hE : EnvE a w) (hc : CodeOk w ca cl) :
    Calls Tryd.prog 13 #[.slice ca cl cc] w fun e w' => e = .returned (.bool true) ∧ Below w.heap.size w w' := by
  have hEH := Lib.hid hE
  have hcH := Lib.hid hc
  clear hE hc
  by_cases hbig : (65536 : Int) < (cl : Int)
  · go_enter Tryd.func13, Tryd.ntmps13
    go_wp2_with fail
    refine (vBig_any _ _ _ _).mono ?_
    rintro e w1 ⟨rfl, rfl⟩
    rw [decide_eq_true hbig]
    go_wp2_with fail
    go_ret
    exact ⟨rfl, bb _⟩
  have hsm : cl ≤ 65536 := by omega
  have hv := Lib.hid (decide_eq_false hbig)
  clear hbig
  go_enter Tryd.func13, Tryd.ntmps13
  go_wp2_with fail
  refine (vBig_any _ _ _ _).mono ?_
  rintro e w1 ⟨rfl, rfl⟩
  rw [hv.out]
  go_wp2_with fail
  refine (drawCrashLog_any ca cl cc w1 hcH.out hsm).mono ?_
  rintro e w2 ⟨d, p, c, k, t, hdp, hk0, hk1, rfl, hb2⟩
  have S2 := ((Sp.start w1).grow hb2).alloc_box #[.string d, .string p, .int .i64 c] 31
  clear hb2
  obtain ⟨cr, hcr⟩ : ∃ cr, crashB (bl d) (bl p) c k t = cr := ⟨_, rfl⟩
  obtain ⟨s, ok⟩ := cr
  replace hcr := Lib.hid hcr
  have c0 := S2.cell (i := 0) rfl (o := 0) rfl
  have c1 := S2.cell (i := 0) rfl (o := 1) rfl
  have c2 := S2.cell (i := 0) rfl (o := 2) rfl
  have hB2 := S2.below
  replace S2 := Lib.hid S2
  go_wp2_with fail
  refine (implCrashLog_any d p c k t a _ (hEH.out.grow hB2) (by omega) (by omega)).mono ?_
  rw [hcr.out]
  rintro e w3 ⟨rfl, hb3⟩
  have S3 := S2.out.grow hb3
  clear S2 hb3 c0 c1 c2 hB2
  have c0 := S3.cell (i := 0) rfl (o := 0) rfl
  have c1 := S3.cell (i := 0) rfl (o := 1) rfl
  have c2 := S3.cell (i := 0) rfl (o := 2) rfl
  replace S3 := Lib.hid S3
  go_wp2_with fail
  refine (specCrashLog_any d p c k t _ (by omega) (by omega)).mono ?_
  rw [hcr.out]
  rintro e w4 ⟨rfl, hb4⟩
  have S4 := S3.out.grow hb4
  clear S3 hb4 c0 c1 c2
  have hB4 := S4.below
  replace S4 := Lib.hid S4
  cases ok
  · obtain rfl := crash_no hcr.out
    go_wp2_with fail
    go_ret
    exact ⟨rfl, hB4⟩
  obtain ⟨Z, rfl⟩ : ∃ Z, s = bl Z := ⟨ms s, rfl⟩
  rw [ms_bl]
  obtain ⟨rc, hrc⟩ : ∃ rc, recovB (bl Z) = rc := ⟨_, rfl⟩
  obtain ⟨m, n, en, told⟩ := rc
  obtain ⟨rfl, f1, f2, f3, f4, f5, f6, j, f7⟩ := crash_read hcr.out hrc
  rw [bl_length] at f1 f2 f3
  obtain ⟨q, rfl⟩ : ∃ q : Nat, en = q := Int.eq_ofNat_of_zero_le (by omega)
  have hsl : Z.extract 0 q = ms m := by
    apply bl_inj
    rw [bl_extract, bl_ms, f4]
    simp
  have hml : Hid (m.length ≤ 30000) := by unfold Hid; rw [f4, List.length_take, bl_length]; omega
  obtain ⟨rs1, hrs1⟩ : ∃ rs1, recsB m [] n = rs1 := ⟨_, rfl⟩
  obtain ⟨rs2, hrs2⟩ : ∃ rs2, recsB (bl d) (bl p) c = rs2 := ⟨_, rfl⟩
  rw [hrs1, hrs2] at f7
  have hl1 : rs1.length ≤ 60 := by rw [← hrs1]; exact recsB_short _ _ _
  have hl2 : rs2.length ≤ 60 := by rw [← hrs2]; exact recsB_short _ _ _
  have hl12 : rs1.length ≤ rs2.length := by rw [f7, List.length_take]; omega
  have hget : Hid (∀ i (h1 : i < rs1.length), rs1[i] = rs2[i]'(by omega)) := by
    unfold Hid
    intro i h1
    subst f7
    rw [List.getElem_take]
  replace hrs1 := Lib.hid hrs1
  replace hrs2 := Lib.hid hrs2
  replace hrc := Lib.hid hrc
  replace f5 := Lib.hid f5
  replace f6 := Lib.hid f6
  clear f7 f4 hcr
  go_wp2_with fail
  refine (implRecoverLog_any Z a _ (hEH.out.grow hB4) (by omega)).mono ?_
  rw [hrc.out]
  rintro e w5 ⟨rfl, hb5⟩
  have S5 := (S4.out.grow hb5).alloc_box #[.string (ms m), .string ⟨#[]⟩, .int .i64 n] 31
  clear S4 hb5 hB4
  have m0 := S5.cell (i := 0) rfl (o := 0) rfl
  have m1 := S5.cell (i := 0) rfl (o := 1) rfl
  have m2 := S5.cell (i := 0) rfl (o := 2) rfl
  have hB5 := S5.below
  replace S5 := Lib.hid S5
  go_wp2_with fail
  refine (implLogRecords_any (ms m) ⟨#[]⟩ n a _ (hEH.out.grow hB5) (by rw [ms_size]; have := hml.out; omega) (by show 0 ≤ _; omega)).mono ?_
  rw [bl_ms, show bl ⟨#[]⟩ = [] from rfl, hrs1.out, f5.out]
  rintro e w6 ⟨v6, F6, rfl, hr6, hn6, hF6, hb6⟩
  obtain ⟨a1, c1', rfl, _, _⟩ := Ty.row_len hr6
  have S6 := S5.out.row_new hb6 hr6 hn6 hF6
  clear S5 hr6 hb6 hn6 hF6 hB5 m0 m1 m2
  have c0 := S6.cell (i := 2) rfl (o := 0) rfl
  have c1 := S6.cell (i := 2) rfl (o := 1) rfl
  have c2 := S6.cell (i := 2) rfl (o := 2) rfl
  replace S6 := Lib.hid S6
  go_wp2_with fail
  refine (specLogRecords_any d p c _ (by omega) (by omega)).mono ?_
  rw [hrs2.out, f6.out]
  rintro e w7 ⟨v7, F7, rfl, hr7, hn7, hF7, hb7⟩
  obtain ⟨a2, c2', rfl, _, _⟩ := Ty.row_len hr7
  have S7 := S6.out.row_new hb7 hr7 hn7 hF7
  clear S6 hr7 hb7 hn7 hF7 c0 c1 c2
  have c0 := S7.cell (i := 3) rfl (o := 0) rfl
  obtain ⟨G1, g1⟩ := S7.row_at (i := 1) rfl
  obtain ⟨G2, g2⟩ := S7.row_at (i := 0) rfl
  obtain ⟨a1', c1'', e1, _, _, _, x1⟩ := row_rec g1
  obtain ⟨a2', c2'', e2, _, _, _, x2⟩ := row_rec g2
  simp only [Value.slice.injEq] at e1 e2
  obtain ⟨rfl, _, rfl⟩ := e1
  obtain ⟨rfl, _, rfl⟩ := e2
  clear g1 g2
  replace x1 := Lib.hid x1
  replace x2 := Lib.hid x2
  replace S7 := Lib.hid S7
  have i1 : (rs1.length : Int) ≤ (rs2.length : Int) := by omega
  go_wp2_with fail
  go_loopw [17] (fun z wr => ∃ k : Nat, k ≤ rs1.length ∧ z = .int .i64 k ∧ Below w7.heap.size w7 wr) (fun z _ => rs1.length - (intOf z).toNat)
  case atStart => exact ⟨0, Nat.zero_le _, rfl, bb _⟩
  case round =>
    obtain ⟨k, hk, rfl, hB⟩ := hrel
    by_cases hlt : k < rs1.length
    · have hlt2 : k < rs2.length := by omega
      have hlt' : (k : Int) < (rs1.length : Int) := by omega
      have hlt2' : (k : Int) < (rs2.length : Int) := by omega
      rcases x1.out with ⟨h0, _⟩ | ⟨_, b1, o1, rfl, rfl, hx⟩
      · exfalso; rw [h0] at hlt; exact absurd hlt (by simp)
      rcases x2.out with ⟨h0, _⟩ | ⟨_, b2, o2, rfl, rfl, hy⟩
      · exfalso; rw [h0] at hlt2; exact absurd hlt2 (by simp)
      have k0 := ((hx k hlt).1.keep (hB.block b1 (hx k hlt).1.lt)).1
      have k1 := ((hx k hlt).2.keep (hB.block b1 (hx k hlt).2.lt)).1
      have k2 := ((hy k hlt2).1.keep (hB.block b2 (hy k hlt2).1.lt)).1
      have k3 := ((hy k hlt2).2.keep (hB.block b2 (hy k hlt2).2.lt)).1
      rw [← hget.out k hlt] at k2 k3
      generalize rs1[k] = r at k0 k1 k2 k3
      clear hx hy
      go_wp2_with fail
      go_quiet (fail)
      go_wp2_with fail
      go_roundw
      case rel => exact ⟨k + 1, by omega, by go_num, (by repeat (first | exact bb _ | assumption | refine bal ?_ _ | refine bdr ?_ | refine bdn ?_ _ | refine bst ?_ (by simp <;> omega) _ | refine btr ?_ (by assumption)))⟩
      case measure => simp [intOf]; omega
    · have hge : ¬ (k : Int) < (rs1.length : Int) := by omega
      have S8 := S7.out.grow hB
      have m0 := S8.cell (i := 2) rfl (o := 0) rfl
      have m1 := S8.cell (i := 2) rfl (o := 1) rfl
      have m2 := S8.cell (i := 2) rfl (o := 2) rfl
      replace S8 := Lib.hid S8
      go_wp2_with fail
      refine wp_region_tail (S := (fun w' => w'.cell? ⟨w5.heap.size, 0, none⟩ = some (.string (ms m)) ∧ w'.cell? ⟨w5.heap.size, 1, none⟩ = some (.string ⟨#[]⟩) ∧ w'.cell? ⟨w5.heap.size, 2, none⟩ = some (.int .i64 n))) 10 (by kernel_rfl) (by kernel_rfl) ?_ ?_
      · exact ⟨m0, m1, m2⟩
      intro hS
      (refine walkT_take (i := 0) (v := ?_) rfl (by kernel_rfl) (by decide) (by kernel_rfl) (by kernel_rfl) (fun _ _ _ h => h) (Or.inl ⟨by rfl, ?_⟩) (by assumption) ?_; rotate_left; (focus (intro w hSw; (try dsimp only at hSw); go_simp; (try with_reducible rfl); done)); (try simp only [put_rules]))
      (refine walkT_ready (rs := [1]) (by kernel_rfl) (by simp) (by decide) ?_; refine AllT.cons rfl (fun K hK => ?_) AllT.nil)
      go_simp
      go_at_call 25
      have S9 := S8.out.grow (bdr (bb _))
      refine (implIsValidLog_any (ms m) ⟨#[]⟩ n a _ (hEH.out.grow S9.below) (by rw [ms_size]; have := hml.out; omega) (by show 0 ≤ _; omega)).mono ?_
      rw [bl_ms, show bl ⟨#[]⟩ = [] from rfl, f5.out]
      rintro e w10 ⟨rfl, hb10⟩
      have S10 := S9.grow hb10
      have n0 := S10.cell (i := 2) rfl (o := 0) rfl
      have n1 := S10.cell (i := 2) rfl (o := 1) rfl
      have n2 := S10.cell (i := 2) rfl (o := 2) rfl
      have hB10 := Lib.hid S10.below
      clear S8 S9 S10 hb10 m0 m1 m2
      go_wp2_with fail
      refine hK.out _ _ ⟨n0, n1, n2⟩ (fun hS2 => ?_)
      clear hK hS
      (try simp only [put_rules])
      (refine walkT_take (i := 2) (v := ?_) rfl (by kernel_rfl) (by decide) (by kernel_rfl) (by kernel_rfl) (fun _ _ _ h => h) (Or.inl ⟨by rfl, ?_⟩) (by assumption) ?_; rotate_left; (focus (intro w hSw; (try dsimp only at hSw); go_simp; (try with_reducible rfl); done)); (try simp only [put_rules]))
      (refine walkT_take (i := 3) (v := ?_) rfl (by kernel_rfl) (by decide) (by kernel_rfl) (by kernel_rfl) (fun _ _ _ h => h) (Or.inl ⟨by rfl, ?_⟩) (by assumption) ?_; rotate_left; (focus (intro w hSw; (try dsimp only at hSw); go_simp; (try with_reducible rfl); done)); (try simp only [put_rules]))
      (refine walkT_take (i := 4) (v := ?_) rfl (by kernel_rfl) (by decide) (by kernel_rfl) (by kernel_rfl) (fun _ _ _ h => h) (Or.inl ⟨by rfl, ?_⟩) (by assumption) ?_; rotate_left; (focus (intro w hSw; (try dsimp only at hSw); go_simp; (try with_reducible rfl); done)); (try simp only [put_rules]))
      (refine walkT_take (i := 5) (v := ?_) rfl (by kernel_rfl) (by decide) (by kernel_rfl) (by kernel_rfl) (fun _ _ _ h => h) (Or.inl ⟨by rfl, ?_⟩) (by assumption) ?_; rotate_left; (focus (intro w hSw; (try dsimp only at hSw); go_simp; (try with_reducible rfl); done)); (try simp only [put_rules]))
      (refine walkT_take (i := 6) (v := ?_) rfl (by kernel_rfl) (by decide) (by kernel_rfl) (by kernel_rfl) (fun _ _ _ h => h) (Or.inl ⟨by rfl, ?_⟩) (by assumption) ?_; rotate_left; (focus (intro w hSw; (try dsimp only at hSw); go_simp; (try with_reducible rfl); done)); (try simp only [put_rules]))
      (refine walkT_take (i := 7) (v := ?_) rfl (by kernel_rfl) (by decide) (by kernel_rfl) (by kernel_rfl) (fun _ _ _ h => h) (Or.inl ⟨by rfl, ?_⟩) (by assumption) ?_; rotate_left; (focus (intro w hSw; (try dsimp only at hSw); go_simp; (try with_reducible rfl); done)); (try simp only [put_rules]))
      (refine walkT_take (i := 8) (v := ?_) rfl (by kernel_rfl) (by decide) (by kernel_rfl) (by kernel_rfl) (fun _ _ _ h => h) (Or.inl ⟨by rfl, ?_⟩) (by assumption) ?_; rotate_left; (focus (intro w hSw; (try dsimp only at hSw); go_simp; (try with_reducible rfl); done)); (try simp only [put_rules]))
      (refine walkT_take (i := 9) (v := ?_) rfl (by kernel_rfl) (by decide) (by kernel_rfl) (by kernel_rfl) (fun _ _ _ h => h) (Or.inl ⟨by rfl, ?_⟩) (by assumption) ?_; rotate_left; (focus (intro w hSw; (try dsimp only at hSw); go_simp; (try with_reducible rfl); done)); (try simp only [put_rules]))
      (refine walkT_done (by kernel_rfl) ?_)
      simp only [List.drop_succ_cons, List.drop_zero]
      go_wp2_with fail
      go_ret
      exact ⟨rfl, hB10.out⟩
end Go.Proofs.YtfcekfomhpmgpaaDoor
