/- Contracts: logs in the program: syncing, recovery, records, appending. -/
import Derived.Test.YtfcekfomhpmgpaaDoorLogH
namespace Go.Proofs.YtfcekfomhpmgpaaDoor
open Go.RowKit

set_option maxHeartbeats 1000000 in
theorem implSyncLog_any (d p : ByteArray) (c : Int) (a : Addr) (w : World) (hE : EnvE a w) (hd : d.size ≤ 1200000) (hp : p.size ≤ 1500000) :
    Calls Tryd.prog 29 #[.agg #[.string d, .string p, .int .i64 c]] w fun e w' => e = .returned (.tuple #[.agg #[.string (ms (syncB (bl d) (bl p) c).1), .string ⟨#[]⟩, .int .i64 (syncB (bl d) (bl p) c).2.1], .bool (syncB (bl d) (bl p) c).2.2]) ∧ Below w.heap.size w w' := by
  have hEH := Lib.hid hE
  clear hE
  have hadd := fun w => run_add (P := Tryd.prog) w d p (by omega)
  by_cases hv : validB (bl d) (bl p) c = true
  · have HF : Hid (syncB (bl d) (bl p) c = (bl d ++ bl p, c, true)) := by unfold Hid syncB; rw [if_pos hv]
    rw [HF.out]
    go_enter Tryd.func29, Tryd.ntmps29
    go_wp2_with fail
    refine (implIsValidLog_any d p c a _ (hEH.out.grow (by repeat (first | exact bb _ | assumption | refine bal ?_ _ | refine bdr ?_ | refine bdn ?_ _ | refine bst ?_ (by simp <;> omega) _ | refine btr ?_ (by assumption)))) hd hp).mono ?_
    rintro e w1 ⟨rfl, hb1⟩
    rw [hv]
    obtain ⟨hc1, hf1⟩ := bcell hb1
    have hs1 : w.heap.size + 1 < w1.heap.size := by have := hb1.size; simp at this; omega
    have hs2 : w.heap.size < w1.heap.size := by omega
    go_wp2_with fail
    exact bodyPost_ret (v := .tuple #[.agg #[.string (ms (bl d ++ bl p)), .string ⟨#[]⟩, .int .i64 c], .bool true]) (by simp [results, Tryd.results29, go_sem, hc1, hs1, hs2]) rfl ⟨rfl, (by repeat (first | exact bb _ | assumption | refine bal ?_ _ | refine bdr ?_ | refine bdn ?_ _ | refine bst ?_ (by simp <;> omega) _ | refine btr ?_ (by assumption)))⟩
  · have hv' : validB (bl d) (bl p) c = false := by simpa using hv
    have HF : Hid (syncB (bl d) (bl p) c = ([], 0, false)) := by unfold Hid syncB; rw [if_neg hv]
    rw [HF.out]
    clear hv
    go_enter Tryd.func29, Tryd.ntmps29
    go_wp2_with fail
    refine (implIsValidLog_any d p c a _ (hEH.out.grow (by repeat (first | exact bb _ | assumption | refine bal ?_ _ | refine bdr ?_ | refine bdn ?_ _ | refine bst ?_ (by simp <;> omega) _ | refine btr ?_ (by assumption)))) hd hp).mono ?_
    rintro e w1 ⟨rfl, hb1⟩
    rw [hv']
    obtain ⟨hc1, hf1⟩ := bcell hb1
    have hs1 : w.heap.size + 1 < w1.heap.size := by have := hb1.size; simp at this; omega
    have hs2 : w.heap.size < w1.heap.size := by omega
    go_wp2_with fail
    exact bodyPost_ret (v := .tuple #[.agg #[.string (ms []), .string ⟨#[]⟩, .int .i64 0], .bool false]) (by simp [results, Tryd.results29, go_sem, hc1, hs1, hs2]; rfl) rfl ⟨rfl, (by repeat (first | exact bb _ | assumption | refine bal ?_ _ | refine bdr ?_ | refine bdn ?_ _ | refine bst ?_ (by simp <;> omega) _ | refine btr ?_ (by assumption)))⟩

set_option maxRecDepth 100000 in
set_option maxHeartbeats 1000000 in
theorem implLogRecords_any (d p : ByteArray) (c : Int) (a : Addr) (w : World) (hE : EnvE a w) (hd : d.size ≤ 1200000) (hp : p.size ≤ 1500000) :
    Calls Tryd.prog 33 #[.agg #[.string d, .string p, .int .i64 c]] w (RecsPost w (recsB (bl d) (bl p) c) (validB (bl d) (bl p) c)) := by
  have hEH := Lib.hid hE
  clear hE
  have hadd := fun w => run_add (P := Tryd.prog) w d p (by omega)
  by_cases hv : validB (bl d) (bl p) c = true
  · have HF : Hid (recsB (bl d) (bl p) c = (openB 60 (bl d ++ bl p)).1) := by unfold Hid recsB; rw [if_pos hv]
    have hz : (ms (bl d ++ bl p)).size ≤ 3000000 := by rw [ms_size, List.length_append, bl_length, bl_length]; omega
    have hdp : Hid (bl (ms (bl d ++ bl p)) = bl d ++ bl p) := rfl
    rw [HF.out, hv]
    go_enter Tryd.func33, Tryd.ntmps33
    go_wp2_with fail
    refine (implIsValidLog_any d p c a _ (hEH.out.grow (by repeat (first | exact bb _ | assumption | refine bal ?_ _ | refine bdr ?_ | refine bdn ?_ _ | refine bst ?_ (by simp <;> omega) _ | refine btr ?_ (by assumption)))) hd hp).mono ?_
    rintro e w1 ⟨rfl, hb1⟩
    rw [hv]
    obtain ⟨hc1, hf1⟩ := bcell hb1
    have hs1 : w.heap.size < w1.heap.size := by have := hb1.size; simp at this; omega
    go_wp2_with fail
    refine (readLog_any (ms (bl d ++ bl p)) a _ (hEH.out.grow (by repeat (first | exact bb _ | assumption | refine bal ?_ _ | refine bdr ?_ | refine bdn ?_ _ | refine bst ?_ (by simp <;> omega) _ | refine btr ?_ (by assumption)))) hz).mono ?_
    rintro e w2 ⟨va, vc, rfl, hr2, ho2, hb2⟩
    rw [hdp.out] at hr2 ho2
    obtain ⟨F, hr, hF, _⟩ := Ty.row_of_owns (T := recTy) (xs := (openB 60 (bl d ++ bl p)).1) (G := []) ho2 rfl (by decide) (flat_all.2 ⟨rfl, openB_ok _ _, rfl⟩)
    have hP : Hid (RecsPost w (openB 60 (bl d ++ bl p)).1 true (.returned (.tuple #[.slice va (openB 60 (bl d ++ bl p)).1.length vc, .bool true])) w2) := by
      refine ⟨_, F, rfl, hr, ?_, ?_, (by repeat (first | exact bb _ | assumption | refine bal ?_ _ | refine bdr ?_ | refine bdn ?_ _ | refine bst ?_ (by simp <;> omega) _ | refine btr ?_ (by assumption)))⟩
      · rcases hF with rfl | ⟨g, _, _, _, rfl⟩ <;> simp
      · rcases hF with rfl | ⟨g, hg1, _, _, rfl⟩
        · simp
        · intro b hb
          have : b = g := by simpa using hb
          omega
    obtain ⟨x0, x1, x2, _, _, _⟩ := hr2
    generalize hm : (openB 60 (bl d ++ bl p)).1.length = m at hP x1 ⊢
    clear hr ho2 hm
    go_wp2_with fail
    go_ret2
    exact hP.out
  · have hv' : validB (bl d) (bl p) c = false := by simpa using hv
    have HF : Hid (recsB (bl d) (bl p) c = []) := by unfold Hid recsB; rw [if_neg hv]
    rw [HF.out, hv']
    clear hv
    go_enter Tryd.func33, Tryd.ntmps33
    go_wp2_with fail
    refine (implIsValidLog_any d p c a _ (hEH.out.grow (by repeat (first | exact bb _ | assumption | refine bal ?_ _ | refine bdr ?_ | refine bdn ?_ _ | refine bst ?_ (by simp <;> omega) _ | refine btr ?_ (by assumption)))) hd hp).mono ?_
    rintro e w1 ⟨rfl, hb1⟩
    rw [hv']
    obtain ⟨hc1, hf1⟩ := bcell hb1
    have hs1 : w.heap.size < w1.heap.size := by have := hb1.size; simp at this; omega
    go_wp2_with fail
    go_ret2
    exact ⟨_, [], rfl, Ty.row_nil _ _ _ _ _ (by decide), by simp, by simp, (by repeat (first | exact bb _ | assumption | refine bal ?_ _ | refine bdr ?_ | refine bdn ?_ _ | refine bst ?_ (by simp <;> omega) _ | refine btr ?_ (by assumption)))⟩

set_option maxRecDepth 100000 in
set_option maxHeartbeats 2000000 in
theorem implRecoverLog_any (s : ByteArray) (a : Addr) (w : World) (hE : EnvE a w) (hs : s.size ≤ 1000000000) :
    Calls Tryd.prog 20 #[.string s] w fun e w' => e = .returned (.tuple #[.agg #[.string (ms (recovB (bl s)).1), .string ⟨#[]⟩, .int .i64 (recovB (bl s)).2.1], .int .i64 (recovB (bl s)).2.2.1, .bool (recovB (bl s)).2.2.2]) ∧ Below w.heap.size w w' := by
  have hEH := Lib.hid hE
  clear hE
  by_cases hbig : (30000 : Int) < (s.size : Int)
  · have HF : Hid (recovB (bl s) = ([], 0, 0, false)) := by unfold Hid recovB; rw [bl_length, if_neg (by omega)]
    rw [HF.out]
    go_enter Tryd.func20, Tryd.ntmps20
    go_wp2_with fail
    exact bodyPost_ret (v := .tuple #[.agg #[.string (ms []), .string ⟨#[]⟩, .int .i64 0], .int .i64 0, .bool false]) (by simp [results, Tryd.results20, go_sem]; rfl) rfl ⟨rfl, (by repeat (first | exact bb _ | assumption | refine bal ?_ _ | refine bdr ?_ | refine bdn ?_ _ | refine bst ?_ (by simp <;> omega) _ | refine btr ?_ (by assumption)))⟩
  have hbig' : (s.size : Int) ≤ 30000 := by omega
  have hl := (openB_len 60 (bl s)).2.2
  rw [bl_length] at hl
  obtain ⟨n1, hn1⟩ : ∃ n : Nat, n = s.size - (openB 60 (bl s)).2.length := ⟨_, rfl⟩
  obtain ⟨m1, hm1⟩ : ∃ m, m = (openB 60 (bl s)).1.length := ⟨_, rfl⟩
  have HF : Hid (recovB (bl s) = (bl (s.extract 0 n1), (m1 : Int), (n1 : Int), true)) := by
    unfold Hid recovB; rw [bl_length, if_pos hbig', bl_extract, ← hn1, ← hm1]; simp; omega
  rw [HF.out]
  have hnn : n1 ≤ s.size := by omega
  have hni : (n1 : Int) ≤ (s.size : Int) := by omega
  have hn0 : (0 : Int) ≤ (n1 : Int) := by omega
  replace hm1 := (show Hid (m1 = (openB 60 (bl s)).1.length) from hm1)
  replace hn1 := (show Hid (n1 = s.size - (openB 60 (bl s)).2.length) from hn1)
  clear hbig
  go_enter Tryd.func20, Tryd.ntmps20
  go_wp2_with fail
  refine (readLog_any s a _ (hEH.out.grow (by repeat (first | exact bb _ | assumption | refine bal ?_ _ | refine bdr ?_ | refine bdn ?_ _ | refine bst ?_ (by simp <;> omega) _ | refine btr ?_ (by assumption)))) (by omega)).mono ?_
  rintro e w1 ⟨va, vc, rfl, hr1, ho1, hb1⟩
  have ez : ((bl s).length : Int) - (openB 60 (bl s)).2.length = (n1 : Int) := by rw [hn1.out, bl_length]; omega
  rw [ez, ← hm1.out] at hr1
  obtain ⟨x0, x1, x2, _, _, _⟩ := hr1
  obtain ⟨hc1, hf1⟩ := bcell hb1
  have hs1 : w.heap.size < w1.heap.size := by have := hb1.size; simp at this; omega
  have r0 : w1.cell? ⟨w.heap.size, 0, none⟩ = some (.string ⟨#[]⟩) := (hc1 _ _ (by simp)).trans (by simp [go_sem])
  have r1 : w1.cell? ⟨w.heap.size, 1, none⟩ = some (.string ⟨#[]⟩) := (hc1 _ _ (by simp)).trans (by simp [go_sem])
  have r2 : w1.cell? ⟨w.heap.size, 2, none⟩ = some (.int .i64 0) := (hc1 _ _ (by simp)).trans (by simp [go_sem])
  have t0 : w1.frozen? ⟨w.heap.size, 0, none⟩ = false := (hf1 _ _ (by simp)).trans (by simp [go_sem])
  have t1 : w1.frozen? ⟨w.heap.size, 1, none⟩ = false := (hf1 _ _ (by simp)).trans (by simp [go_sem])
  have t2 : w1.frozen? ⟨w.heap.size, 2, none⟩ = false := (hf1 _ _ (by simp)).trans (by simp [go_sem])
  clear hl ez ho1 hc1 hf1
  go_upto_region 4 with fail
  have hgs : (w.alloc (Obj.cells #[Value.string { data := #[] }, Value.string { data := #[] }, Value.int IntKind.i64 0] 31)).heap.size = w.heap.size + 1 := by simp
  rw [hgs] at x0 x1 x2
  have hset : ∀ (W' : World) (o o' : Nat) (v : Value), (W'.setCell ⟨w.heap.size, o', none⟩ v).cell? ⟨w.heap.size + 1, o, none⟩ = W'.cell? ⟨w.heap.size + 1, o, none⟩ := fun W' o o' v => World.cell?_setCell_other W' _ _ _ (by simp only [ne_eq, Addr.mk.injEq]; omega)
  clear hgs
  have hB : Hid (Below w.heap.size w w1) := (by repeat (first | exact bb _ | assumption | refine bal ?_ _ | refine bdr ?_ | refine bdn ?_ _ | refine bst ?_ (by simp <;> omega) _ | refine btr ?_ (by assumption)))
  clear hb1
  go_region_held3 (fun w' => w'.cell? ⟨w.heap.size + 1, 1, none⟩ = some (.slice va m1 vc) ∧ w'.cell? ⟨w.heap.size + 1, 2, none⟩ = some (.int .i64 n1)) (go_keep) (fail)
  all_goals
    go_wp2_with fail
    exact bodyPost_ret (v := .tuple #[.agg #[.string (s.extract 0 n1), .string ⟨#[]⟩, .int .i64 m1], .int .i64 n1, .bool true]) (by simp [results, Tryd.results20, go_sem, r0, r1, r2]) rfl ⟨by rw [ms_bl], by have := hB.out; exact (by repeat (first | exact bb _ | assumption | refine bal ?_ _ | refine bdr ?_ | refine bdn ?_ _ | refine bst ?_ (by simp <;> omega) _ | refine btr ?_ (by assumption)))⟩
end Go.Proofs.YtfcekfomhpmgpaaDoor
