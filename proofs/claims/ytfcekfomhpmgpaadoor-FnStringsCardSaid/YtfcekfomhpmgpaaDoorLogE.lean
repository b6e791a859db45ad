/- Contracts: logs in the reference: records, appending. -/
import Derived.Test.YtfcekfomhpmgpaaDoorLogD
import Derived.Test.YtfcekfomhpmgpaaDoorQTail
namespace Go.Proofs.YtfcekfomhpmgpaaDoor
open Go.RowKit

/-- The records of a log. -/
def recsB (d p : List UInt8) (c : Int) : List (List UInt8 × List UInt8) := if validB d p c then (openB 60 (d ++ p)).1 else []
/-- A row of records of its own, and a flag. -/
def RecsPost (w : World) (xs : List (List UInt8 × List UInt8)) (ok : Bool) (e : Ending) (w' : World) : Prop :=
  ∃ (v : Value) (F : List Nat), e = .returned (.tuple #[v, .bool ok]) ∧ recTy.row true w' v xs F ∧ F.Nodup ∧ (∀ b ∈ F, w.heap.size ≤ b) ∧ Below w.heap.size w w'

set_option maxRecDepth 100000 in
set_option maxHeartbeats 1000000 in
theorem specLogRecords_any (d p : ByteArray) (c : Int) (w : World) (hd : d.size ≤ 1000000000) (hp : p.size ≤ 1000000000) :
    Calls Tryd.prog 32 #[.agg #[.string d, .string p, .int .i64 c]] w (RecsPost w (recsB (bl d) (bl p) c) (validB (bl d) (bl p) c)) := by
  have hadd := fun w => run_add (P := Tryd.prog) w d p (by omega)
  by_cases hv : validB (bl d) (bl p) c = true
  · have HF : Hid (recsB (bl d) (bl p) c = (openB 60 (bl d ++ bl p)).1) := by unfold Hid recsB; rw [if_pos hv]
    have hz : (ms (bl d ++ bl p)).size ≤ 1000000 := by
      simp only [validB, Bool.and_eq_true, decide_eq_true_eq] at hv
      have := hv.1.1.1
      rw [ms_size, List.length_append]; omega
    have hdp : Hid (bl (ms (bl d ++ bl p)) = bl d ++ bl p) := rfl
    rw [HF.out, hv]
    go_enter Tryd.func32, Tryd.ntmps32
    go_wp2_with fail
    refine (l33Log_any _ _ _ _ (by assumption) (by assumption)).mono ?_
    rintro e w1 ⟨rfl, hb1⟩
    rw [hv]
    obtain ⟨hc1, hf1⟩ := bcell hb1
    have hs1 : w.heap.size < w1.heap.size := by have := hb1.size; simp at this; omega
    go_wp2_with fail
    refine (l33Open_any (ms (bl d ++ bl p)) _ hz).mono ?_
    rintro e w2 ⟨v2, F2, n2, rfl, hn2, hr2, hF2, hG2, hb2⟩
    rw [hdp.out] at hr2
    obtain ⟨a2, c2, rfl, _, _⟩ := Ty.row_len hr2
    have hp : Hid (RecsPost w (openB 60 (bl d ++ bl p)).1 true (.returned (.tuple #[.slice a2 (openB 60 (bl d ++ bl p)).1.length c2, .bool true])) w2) :=
      ⟨_, F2, rfl, hr2, hF2, fun b hb => Nat.le_of_lt (Nat.lt_of_lt_of_le hs1 (hG2 b hb)), (by repeat (first | exact bb _ | assumption | refine bal ?_ _ | refine bdr ?_ | refine bdn ?_ _ | refine bst ?_ (by simp <;> omega) _ | refine btr ?_ (by assumption)))⟩
    generalize hm : (openB 60 (bl d ++ bl p)).1.length = m at hp ⊢
    clear hr2 hn2 hm
    go_wp2_with fail
    go_ret2
    exact hp.out
  · have hv' : validB (bl d) (bl p) c = false := by simpa using hv
    have HF : Hid (recsB (bl d) (bl p) c = []) := by unfold Hid recsB; rw [if_neg hv]
    rw [HF.out, hv']
    clear hv
    go_enter Tryd.func32, Tryd.ntmps32
    go_wp2_with fail
    refine (l33Log_any _ _ _ _ (by assumption) (by assumption)).mono ?_
    rintro e w1 ⟨rfl, hb1⟩
    rw [hv']
    obtain ⟨hc1, hf1⟩ := bcell hb1
    have hs1 : w.heap.size < w1.heap.size := by have := hb1.size; simp at this; omega
    go_wp2_with fail
    go_ret2
    exact ⟨_, [], rfl, Ty.row_nil _ _ _ _ _ (by decide), by simp, by simp, (by repeat (first | exact bb _ | assumption | refine bal ?_ _ | refine bdr ?_ | refine bdn ?_ _ | refine bst ?_ (by simp <;> omega) _ | refine btr ?_ (by assumption)))⟩

/-- An appended log. -/
def addB (d p : List UInt8) (c : Int) (q r : List UInt8) : List UInt8 × Int × Int :=
  if validB d p c && goodB q r then (if c = 60 then (p, c, 2) else (p ++ lineB c q r, c + 1, 0)) else (p, c, 1)
theorem validB_count {d p : List UInt8} {c : Int} (h : validB d p c = true) : 0 ≤ c ∧ c ≤ 60 ∧ d.length + p.length ≤ 30000 := by
  simp only [validB, Bool.and_eq_true, decide_eq_true_eq, beq_iff_eq] at h
  have := (openB_len 60 (d ++ p)).1
  omega

/-- A log by value. -/
def LogPost (w : World) (d p : ByteArray) (c k : Int) (e : Ending) (w' : World) : Prop :=
  e = .returned (.tuple #[.agg #[.string d, .string p, .int .i64 c], .int .i64 k]) ∧ Below w.heap.size w w'

set_option maxRecDepth 100000 in
set_option maxHeartbeats 1000000 in
theorem specAppendRecord_no (d p q r : ByteArray) (c k : Int) (w : World) (hd : d.size ≤ 1000000000) (hp : p.size ≤ 1000000000) (hq : q.size ≤ 1000000000) (hr : r.size ≤ 1000000000)
    (h : (validB (bl d) (bl p) c = false ∧ k = 1) ∨ (validB (bl d) (bl p) c = true ∧ goodB (bl q) (bl r) = false ∧ k = 1) ∨ (validB (bl d) (bl p) c = true ∧ goodB (bl q) (bl r) = true ∧ c = 60 ∧ k = 2)) :
    Calls Tryd.prog 30 #[.agg #[.string d, .string p, .int .i64 c], .agg #[.string q, .string r]] w (LogPost w d p c k) := by
  rcases h with ⟨hv, rfl⟩ | ⟨hv, hg, rfl⟩ | ⟨hv, hg, rfl, rfl⟩
  · go_enter Tryd.func30, Tryd.ntmps30
    go_wp2_with fail
    refine (l33Log_any _ _ _ _ (by assumption) (by assumption)).mono ?_
    rintro e w1 ⟨rfl, hb1⟩
    rw [hv]
    obtain ⟨hc1, hf1⟩ := bcell hb1
    have hs1 : w.heap.size + 2 < w1.heap.size := by have := hb1.size; simp at this; omega
    have hs2 : w.heap.size < w1.heap.size := by omega
    have hs3 : w.heap.size + 1 < w1.heap.size := by omega
    go_wp2_with fail
    exact bodyPost_ret (v := .tuple #[.agg #[.string d, .string p, .int .i64 c], .int .i64 1]) (by simp [results, Tryd.results30, go_sem, hc1, hs1, hs2, hs3]) rfl ⟨rfl, (by repeat (first | exact bb _ | assumption | refine bal ?_ _ | refine bdr ?_ | refine bdn ?_ _ | refine bst ?_ (by simp <;> omega) _ | refine btr ?_ (by assumption)))⟩
  · go_enter Tryd.func30, Tryd.ntmps30
    go_wp2_with fail
    refine (l33Log_any _ _ _ _ (by assumption) (by assumption)).mono ?_
    rintro e w1 ⟨rfl, hb1⟩
    rw [hv]
    obtain ⟨hc1, hf1⟩ := bcell hb1
    have hs1 : w.heap.size + 2 < w1.heap.size := by have := hb1.size; simp at this; omega
    have hs2 : w.heap.size < w1.heap.size := by omega
    have hs3 : w.heap.size + 1 < w1.heap.size := by omega
    go_wp2_with fail
    refine (l33Good_any _ _ _ (by omega) (by omega)).mono ?_
    rintro e w2 ⟨rfl, hb2⟩
    rw [hg]
    obtain ⟨hc2, hf2⟩ := bcell hb2
    have ht1 : w.heap.size + 2 < w2.heap.size := Nat.lt_of_lt_of_le hs1 hb2.size
    have ht2 : w.heap.size < w2.heap.size := by omega
    have ht3 : w.heap.size + 1 < w2.heap.size := by omega
    go_wp2_with fail
    exact bodyPost_ret (v := .tuple #[.agg #[.string d, .string p, .int .i64 c], .int .i64 1]) (by simp [results, Tryd.results30, go_sem, hc1, hs1, hs2, hs3, hc2, ht1, ht2, ht3]) rfl ⟨rfl, (by repeat (first | exact bb _ | assumption | refine bal ?_ _ | refine bdr ?_ | refine bdn ?_ _ | refine bst ?_ (by simp <;> omega) _ | refine btr ?_ (by assumption)))⟩
  · go_enter Tryd.func30, Tryd.ntmps30
    go_wp2_with fail
    refine (l33Log_any _ _ _ _ (by assumption) (by assumption)).mono ?_
    rintro e w1 ⟨rfl, hb1⟩
    rw [hv]
    obtain ⟨hc1, hf1⟩ := bcell hb1
    have hs1 : w.heap.size + 2 < w1.heap.size := by have := hb1.size; simp at this; omega
    have hs2 : w.heap.size < w1.heap.size := by omega
    have hs3 : w.heap.size + 1 < w1.heap.size := by omega
    go_wp2_with fail
    refine (l33Good_any _ _ _ (by omega) (by omega)).mono ?_
    rintro e w2 ⟨rfl, hb2⟩
    rw [hg]
    obtain ⟨hc2, hf2⟩ := bcell hb2
    have ht1 : w.heap.size + 2 < w2.heap.size := Nat.lt_of_lt_of_le hs1 hb2.size
    have ht2 : w.heap.size < w2.heap.size := by omega
    have ht3 : w.heap.size + 1 < w2.heap.size := by omega
    go_wp2_with fail
    exact bodyPost_ret (v := .tuple #[.agg #[.string d, .string p, .int .i64 60], .int .i64 2]) (by simp [results, Tryd.results30, go_sem, hc1, hs1, hs2, hs3, hc2, ht1, ht2, ht3]) rfl ⟨rfl, (by repeat (first | exact bb _ | assumption | refine bal ?_ _ | refine bdr ?_ | refine bdn ?_ _ | refine bst ?_ (by simp <;> omega) _ | refine btr ?_ (by assumption)))⟩

set_option maxRecDepth 100000 in
set_option maxHeartbeats 2000000 in
theorem specAppendRecord_yes (d p q r : ByteArray) (c : Int) (w : World) (hd : d.size ≤ 1000000000) (hp : p.size ≤ 1000000000) (hq : q.size ≤ 1000000000) (hr : r.size ≤ 1000000000)
    (hv : validB (bl d) (bl p) c = true) (hg : goodB (bl q) (bl r) = true) (h0 : 0 ≤ c) (h1 : c ≤ 59) (h2 : (c == 60) = false) :
    Calls Tryd.prog 30 #[.agg #[.string d, .string p, .int .i64 c], .agg #[.string q, .string r]] w (LogPost w d (ms (bl p ++ lineB c (bl q) (bl r))) (c + 1) 0) := by
  have hlen := (lineB_len (k := c) h0 h1 hg).1
  have hadd := fun w => run_add (P := Tryd.prog) w p (ms (lineB c (bl q) (bl r))) (by rw [ms_size]; omega)
  rw [bl_ms] at hadd
  go_enter Tryd.func30, Tryd.ntmps30
  go_wp2_with fail
  refine (l33Log_any _ _ _ _ (by assumption) (by assumption)).mono ?_
  rintro e w1 ⟨rfl, hb1⟩
  rw [hv]
  obtain ⟨hc1, hf1⟩ := bcell hb1
  have hs1 : w.heap.size + 2 < w1.heap.size := by have := hb1.size; simp at this; omega
  have hs2 : w.heap.size < w1.heap.size := by omega
  have hs3 : w.heap.size + 1 < w1.heap.size := by omega
  go_wp2_with fail
  refine (l33Good_any _ _ _ (by omega) (by omega)).mono ?_
  rintro e w2 ⟨rfl, hb2⟩
  rw [hg]
  obtain ⟨hc2, hf2⟩ := bcell hb2
  have ht1 : w.heap.size + 2 < w2.heap.size := Nat.lt_of_lt_of_le hs1 hb2.size
  have ht2 : w.heap.size < w2.heap.size := by omega
  have ht3 : w.heap.size + 1 < w2.heap.size := by omega
  have z1 : w.heap.size < w.heap.size + 1 + 1 := by omega
  have z2 : w.heap.size + 1 < w.heap.size + 1 + 1 := by omega
  have c0 : w2.cell? ⟨w.heap.size, 0, none⟩ = some (.string d) := (hc2 _ _ hs2).trans ((hc1 _ _ (by simp <;> omega)).trans (by simp [go_sem, z1, z2]))
  have c1 : w2.cell? ⟨w.heap.size, 1, none⟩ = some (.string p) := (hc2 _ _ hs2).trans ((hc1 _ _ (by simp <;> omega)).trans (by simp [go_sem, z1, z2]))
  have c2 : w2.cell? ⟨w.heap.size, 2, none⟩ = some (.int .i64 c) := (hc2 _ _ hs2).trans ((hc1 _ _ (by simp <;> omega)).trans (by simp [go_sem, z1, z2]))
  have c3 : w2.cell? ⟨w.heap.size + 1, 0, none⟩ = some (.string q) := (hc2 _ _ hs3).trans ((hc1 _ _ (by simp <;> omega)).trans (by simp [go_sem, z1, z2]))
  have c4 : w2.cell? ⟨w.heap.size + 1, 1, none⟩ = some (.string r) := (hc2 _ _ hs3).trans ((hc1 _ _ (by simp <;> omega)).trans (by simp [go_sem, z1, z2]))
  have f1 : w2.frozen? ⟨w.heap.size, 1, none⟩ = false := (hf2 _ _ hs2).trans ((hf1 _ _ (by simp <;> omega)).trans (by simp [go_sem, z1, z2]))
  have f2 : w2.frozen? ⟨w.heap.size, 2, none⟩ = false := (hf2 _ _ hs2).trans ((hf1 _ _ (by simp <;> omega)).trans (by simp [go_sem, z1, z2]))
  have r0 : w2.cell? ⟨w.heap.size + 1 + 1, 0, none⟩ = some (.string ⟨#[]⟩) := (hc2 _ _ hs1).trans ((hc1 _ _ (by simp <;> omega)).trans (by simp [go_sem, z1, z2]))
  have r1 : w2.cell? ⟨w.heap.size + 1 + 1, 1, none⟩ = some (.string ⟨#[]⟩) := (hc2 _ _ hs1).trans ((hc1 _ _ (by simp <;> omega)).trans (by simp [go_sem, z1, z2]))
  have r2 : w2.cell? ⟨w.heap.size + 1 + 1, 2, none⟩ = some (.int .i64 0) := (hc2 _ _ hs1).trans ((hc1 _ _ (by simp <;> omega)).trans (by simp [go_sem, z1, z2]))
  have g0 : w2.frozen? ⟨w.heap.size + 1 + 1, 0, none⟩ = false := (hf2 _ _ hs1).trans ((hf1 _ _ (by simp <;> omega)).trans (by simp [go_sem, z1, z2]))
  have g1 : w2.frozen? ⟨w.heap.size + 1 + 1, 1, none⟩ = false := (hf2 _ _ hs1).trans ((hf1 _ _ (by simp <;> omega)).trans (by simp [go_sem, z1, z2]))
  have g2 : w2.frozen? ⟨w.heap.size + 1 + 1, 2, none⟩ = false := (hf2 _ _ hs1).trans ((hf1 _ _ (by simp <;> omega)).trans (by simp [go_sem, z1, z2]))
  go_upto_region 5 with fail
  have hB : Hid (Below w.heap.size w w2) := (by repeat (first | exact bb _ | assumption | refine bal ?_ _ | refine bdr ?_ | refine bdn ?_ _ | refine bst ?_ (by simp <;> omega) _ | refine btr ?_ (by assumption)))
  clear hc1 hf1 hc2 hf2 hb1 hb2
  have k1 := cell_regrown c1
  have k2 := cell_regrown c2
  have k3 := cell_regrown c3
  have k4 := cell_regrown c4
  refine wp_region_quiet_below_tail 8 (by kernel_rfl) (by kernel_rfl) ?_
  simp only [List.take_succ_cons, List.take_zero, List.drop_succ_cons, List.drop_zero]
  repeat (any_goals (first
    | go_big_quiet_step ((go_at_call 65; exact Calls.regrown_of (l33Line_any c q r _ h0 (by omega) (by omega) (by omega))))))
  refine wpQuiet_nil ?_
  rintro w4 ⟨pp, hw4⟩
  have hb4 : Below w2.heap.size w2 w4 := hw4 ▸ below_regrown _ _ _
  clear hw4 k1 k2 k3 k4
  obtain ⟨hc4, hf4⟩ := bcell hb4
  go_wp2_with fail
  refine bodyPost_ret (v := .tuple #[.agg #[.string d, .string (ms (bl p ++ lineB c (bl q) (bl r))), .int .i64 (c + 1)], .int .i64 0]) ?_ rfl ⟨rfl, ?_⟩
  · simp [results, Tryd.results30, go_sem, hc4, ht1, ht2, r0, r1, r2]
  · repeat (refine bst ?_ (by simp <;> omega) _)
    exact btr hB.out hb4

theorem specAppendRecord_any (d p q r : ByteArray) (c : Int) (w : World) (hd : d.size ≤ 1000000000) (hp : p.size ≤ 1000000000) (hq : q.size ≤ 1000000000) (hr : r.size ≤ 1000000000) :
    Calls Tryd.prog 30 #[.agg #[.string d, .string p, .int .i64 c], .agg #[.string q, .string r]] w (LogPost w d (ms (addB (bl d) (bl p) c (bl q) (bl r)).1) (addB (bl d) (bl p) c (bl q) (bl r)).2.1 (addB (bl d) (bl p) c (bl q) (bl r)).2.2) := by
  unfold addB
  by_cases hv : validB (bl d) (bl p) c = true
  · have hcnt := validB_count hv
    by_cases hg : goodB (bl q) (bl r) = true
    · rw [hv, hg]
      by_cases h60 : c = 60
      · simp only [Bool.and_self, if_true, if_pos h60, ms_bl]
        exact specAppendRecord_no d p q r c 2 w hd hp hq hr (Or.inr (Or.inr ⟨hv, hg, h60, rfl⟩))
      · simp only [Bool.and_self, if_true, if_neg h60]
        exact specAppendRecord_yes d p q r c w hd hp hq hr hv hg hcnt.1 (by omega) (by simpa using h60)
    · have hg' : goodB (bl q) (bl r) = false := by simpa using hg
      rw [hv, hg']
      simp only [Bool.and_false, Bool.false_eq_true, if_false, ms_bl]
      exact specAppendRecord_no d p q r c 1 w hd hp hq hr (Or.inr (Or.inl ⟨hv, hg', rfl⟩))
  · have hv' : validB (bl d) (bl p) c = false := by simpa using hv
    rw [hv']
    simp only [Bool.false_and, Bool.false_eq_true, if_false, ms_bl]
    exact specAppendRecord_no d p q r c 1 w hd hp hq hr (Or.inl ⟨hv', rfl⟩)
end Go.Proofs.YtfcekfomhpmgpaaDoor
