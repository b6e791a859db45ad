/- Contracts: logs in the program: validity, syncing, recovery, records. -/
import Derived.Test.YtfcekfomhpmgpaaDoorLogG
import Derived.Deep.QuietTactic
namespace Go.Proofs.YtfcekfomhpmgpaaDoor
open Go.RowKit

theorem bdn {W w : World} (h : Below W.heap.size W w) (n : Nat) : Below W.heap.size W (w.drewN n) := ⟨h.os, h.tape, h.output, h.size, h.block⟩

theorem validB_eq (d p : List UInt8) (c : Int) : validB d p c = ((openB 60 (d ++ p)).2.isEmpty && (openB 60 d).2.isEmpty && (((openB 60 (d ++ p)).1.length : Int) == c)) := by
  unfold validB
  have h := openB_len 60 (d ++ p)
  by_cases e : (openB 60 (d ++ p)).2.isEmpty = true
  · rw [e]
    have e' : (openB 60 (d ++ p)).2 = [] := by simpa using e
    rw [e', List.length_append] at h
    simp only [List.length_nil] at h
    rw [decide_eq_true (by omega)]; rfl
  · have e' : (openB 60 (d ++ p)).2.isEmpty = false := by simpa using e
    rw [e']; simp

/-- What the two readers have left. -/
def TwoIs (w : World) (a1 a2 : Addr) (R1 R2 : List UInt8) (n : Nat) (c : Int) (wx : World) : Prop :=
  ∃ (g1 g2 : Nat) (va vb : Option Addr) (m vc vd : Nat) (z1 z2 : Int), a1 = ⟨g1, 0, none⟩ ∧ a2 = ⟨g2, 0, none⟩ ∧ RdIs wx g1 R1 (.slice va n vc) z1 ∧ RdIs wx g2 R2 (.slice vb m vd) z2 ∧ wx.cell? ⟨w.heap.size, 2, none⟩ = some (.int .i64 c) ∧ Below w.heap.size w wx

set_option maxRecDepth 100000 in
set_option maxHeartbeats 4000000 in
theorem implIsValidLog_any (d p : ByteArray) (c : Int) (a : Addr) (w : World) (hE : EnvE a w) (hd : d.size ≤ 1200000) (hp : p.size ≤ 1500000) :
    Calls Tryd.prog 25 #[.agg #[.string d, .string p, .int .i64 c]] w fun e w' => e = .returned (.bool (validB (bl d) (bl p) c)) ∧ Below w.heap.size w w' := by
  have hEH := Lib.hid hE
  clear hE
  have hadd := fun w => run_add (P := Tryd.prog) w d p (by omega)
  have hdp : Hid (bl (ms (bl d ++ bl p)) = bl d ++ bl p) := rfl
  have hz : (ms (bl d ++ bl p)).size ≤ 3000000 := by rw [ms_size, List.length_append, bl_length, bl_length]; omega
  obtain ⟨R1, hR1⟩ : ∃ R, R = (openB 60 (bl d ++ bl p)).2 := ⟨_, rfl⟩
  obtain ⟨R2, hR2⟩ : ∃ R, R = (openB 60 (bl d)).2 := ⟨_, rfl⟩
  obtain ⟨n1, hn1⟩ : ∃ n, n = (openB 60 (bl d ++ bl p)).1.length := ⟨_, rfl⟩
  have HV : Hid (validB (bl d) (bl p) c = (R1.isEmpty && R2.isEmpty && ((n1 : Int) == c))) := by unfold Hid; rw [validB_eq, hR1, hR2, hn1]
  replace hR1 := (show Hid (R1 = (openB 60 (bl d ++ bl p)).2) from hR1)
  replace hR2 := (show Hid (R2 = (openB 60 (bl d)).2) from hR2)
  replace hn1 := (show Hid (n1 = (openB 60 (bl d ++ bl p)).1.length) from hn1)
  go_enter Tryd.func25, Tryd.ntmps25
  go_upto_region 1 with fail
  go_cut [3, 4] (fun s3 s4 wx => ∃ a1 a2, s3 = .pointer (some a1) ∧ s4 = .pointer (some a2) ∧ TwoIs w a1 a2 R1 R2 n1 c wx)
  case first =>
    go_region_held3 (fun w' => w'.cell? ⟨w.heap.size, 0, none⟩ = some (.string d) ∧ w'.cell? ⟨w.heap.size, 1, none⟩ = some (.string p) ∧ w'.cell? ⟨w.heap.size, 2, none⟩ = some (.int .i64 c)) (go_keep)
      (first
        | (go_at_call 69; (with_reducible refine (readLog_any (ms (bl d ++ bl p)) a _ (hEH.out.grow (by repeat (first | exact bb _ | assumption | refine bal ?_ _ | refine bdr ?_ | refine bdn ?_ _ | refine bst ?_ (by simp <;> omega) _ | refine btr ?_ (by assumption)))) hz).mono ?_); rintro e w1 ⟨va, vc, rfl, hr1, ho1, hb1⟩; rw [hdp.out, ← hR1.out, ← hn1.out] at hr1; have z1 := (fun o => (bcell hb1).1 w.heap.size o (by simp)); have hs1 : w.heap.size < w1.heap.size := Nat.lt_of_lt_of_le (by simp) hb1.size)
        | (go_at_call 69; (with_reducible refine (readLog_any d a _ (hEH.out.grow (by repeat (first | exact bb _ | assumption | refine bal ?_ _ | refine bdr ?_ | refine bdn ?_ _ | refine bst ?_ (by simp <;> omega) _ | refine btr ?_ (by assumption)))) (by omega)).mono ?_); rintro e w2 ⟨vb, vd, rfl, hr2, ho2, hb2⟩; rw [← hR2.out] at hr2; have z2 := (fun o => (bcell hb2).1 w.heap.size o hs1)))
    all_goals
      have hf : TwoIs w ⟨_, 0, none⟩ ⟨_, 0, none⟩ R1 R2 n1 c w2 := ⟨_, _, va, vb, _, vc, vd, _, _, rfl, rfl, hr1.grow hb2, hr2, (z2 2).trans ((z1 2).trans (by simp [go_sem])), (by repeat (first | exact bb _ | assumption | refine bal ?_ _ | refine bdr ?_ | refine bdn ?_ _ | refine bst ?_ (by simp <;> omega) _ | refine btr ?_ (by assumption)))⟩
      go_wp2_with fail
      go_meet
      refine ⟨_, _, ?_, ?_, hf⟩ <;> simp
  case rest =>
    obtain ⟨a1, a2, rfl, rfl, HT⟩ := hcut
    obtain ⟨g1, g2, va, vb, m, vc, vd, z1, z2, rfl, rfl, hr1, hr2, hc2, hB⟩ := HT
    obtain ⟨c0, c1, _, _, _, _⟩ := hr1
    obtain ⟨d0, d1, _, _, _, _⟩ := hr2
    by_cases h1 : R1.isEmpty = true
    · by_cases h2 : R2.isEmpty = true
      · go_wp2_with fail
        go_quiet (fail)
        go_wp2_with fail
        go_ret
        exact ⟨ret_bool (by rw [HV.out, h1, h2]; rfl), (by repeat (first | exact bb _ | assumption | refine bal ?_ _ | refine bdr ?_ | refine bdn ?_ _ | refine bst ?_ (by simp <;> omega) _ | refine btr ?_ (by assumption)))⟩
      · have h2' : R2.isEmpty = false := by simpa using h2
        clear h2
        go_wp2_with fail
        go_quiet (fail)
        go_wp2_with fail
        go_ret
        exact ⟨ret_bool (by rw [HV.out, h1, h2']; rfl), (by repeat (first | exact bb _ | assumption | refine bal ?_ _ | refine bdr ?_ | refine bdn ?_ _ | refine bst ?_ (by simp <;> omega) _ | refine btr ?_ (by assumption)))⟩
    · have h1' : R1.isEmpty = false := by simpa using h1
      clear h1
      go_wp2_with fail
      go_quiet (fail)
      go_wp2_with fail
      go_ret
      exact ⟨ret_bool (by rw [HV.out, h1']; rfl), (by repeat (first | exact bb _ | assumption | refine bal ?_ _ | refine bdr ?_ | refine bdn ?_ _ | refine bst ?_ (by simp <;> omega) _ | refine btr ?_ (by assumption)))⟩
end Go.Proofs.YtfcekfomhpmgpaaDoor
