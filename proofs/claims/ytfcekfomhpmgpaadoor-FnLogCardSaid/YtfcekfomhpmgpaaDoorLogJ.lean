/- Contracts: appending a record in the program. -/
import Derived.Test.YtfcekfomhpmgpaaDoorLogI
namespace Go.Proofs.YtfcekfomhpmgpaaDoor
open Go.RowKit

theorem implIsValidRecord_b (q r : ByteArray) (w : World) (hq : q.size ≤ 3000000) (hr : r.size ≤ 3000000) :
    Calls Tryd.prog 52 #[.agg #[.string q, .string r]] w fun e w' => e = .returned (.bool (goodB (bl q) (bl r))) ∧ Below w.heap.size w w' := implIsValidRecord_any q r w (by omega) (by omega)

set_option maxRecDepth 100000 in
set_option maxHeartbeats 1000000 in
theorem implAppendRecord_no (d p q r : ByteArray) (c k : Int) (a : Addr) (w : World) (hE : EnvE a w) (hd : d.size ≤ 1200000) (hp : p.size ≤ 1500000) (hq : q.size ≤ 3000000) (hr : r.size ≤ 3000000)
    (h : (validB (bl d) (bl p) c = false ∧ k = 1) ∨ (validB (bl d) (bl p) c = true ∧ goodB (bl q) (bl r) = false ∧ k = 1) ∨ (validB (bl d) (bl p) c = true ∧ goodB (bl q) (bl r) = true ∧ c = 60 ∧ k = 2)) :
    Calls Tryd.prog 31 #[.agg #[.string d, .string p, .int .i64 c], .agg #[.string q, .string r]] w (LogPost w d p c k) := by
  have hEH := Lib.hid hE
  clear hE
  have z1 : w.heap.size < w.heap.size + 1 + 1 := by omega
  rcases h with ⟨hv, rfl⟩ | ⟨hv, hg, rfl⟩ | ⟨hv, hg, rfl, rfl⟩
  · go_enter Tryd.func31, Tryd.ntmps31
    go_wp2_with fail
    refine (implIsValidLog_any d p c a _ (hEH.out.grow (by repeat (first | exact bb _ | assumption | refine bal ?_ _ | refine bdr ?_ | refine bdn ?_ _ | refine bst ?_ (by simp <;> omega) _ | refine btr ?_ (by assumption)))) hd hp).mono ?_
    rintro e w1 ⟨rfl, hb1⟩
    rw [hv]
    obtain ⟨hc1, hf1⟩ := bcell hb1
    have hs1 : w.heap.size + 2 < w1.heap.size := by have := hb1.size; simp at this; omega
    have hs2 : w.heap.size < w1.heap.size := by omega
    have hs3 : w.heap.size + 1 < w1.heap.size := by omega
    go_wp2_with fail
    exact bodyPost_ret (v := .tuple #[.agg #[.string d, .string p, .int .i64 c], .int .i64 1]) (by simp [results, Tryd.results31, go_sem, hc1, hs1, hs2, hs3]) rfl ⟨rfl, (by repeat (first | exact bb _ | assumption | refine bal ?_ _ | refine bdr ?_ | refine bdn ?_ _ | refine bst ?_ (by simp <;> omega) _ | refine btr ?_ (by assumption)))⟩
  · go_enter Tryd.func31, Tryd.ntmps31
    go_wp2_with fail
    refine (implIsValidLog_any d p c a _ (hEH.out.grow (by repeat (first | exact bb _ | assumption | refine bal ?_ _ | refine bdr ?_ | refine bdn ?_ _ | refine bst ?_ (by simp <;> omega) _ | refine btr ?_ (by assumption)))) hd hp).mono ?_
    rintro e w1 ⟨rfl, hb1⟩
    rw [hv]
    obtain ⟨hc1, hf1⟩ := bcell hb1
    have hs1 : w.heap.size + 2 < w1.heap.size := by have := hb1.size; simp at this; omega
    have hs2 : w.heap.size < w1.heap.size := by omega
    have hs3 : w.heap.size + 1 < w1.heap.size := by omega
    go_wp2_with fail
    refine (implIsValidRecord_b _ _ _ hq hr).mono ?_
    rintro e w2 ⟨rfl, hb2⟩
    rw [hg]
    obtain ⟨hc2, hf2⟩ := bcell hb2
    have ht1 : w.heap.size + 2 < w2.heap.size := Nat.lt_of_lt_of_le hs1 hb2.size
    have ht2 : w.heap.size < w2.heap.size := by omega
    have ht3 : w.heap.size + 1 < w2.heap.size := by omega
    go_wp2_with fail
    exact bodyPost_ret (v := .tuple #[.agg #[.string d, .string p, .int .i64 c], .int .i64 1]) (by simp [results, Tryd.results31, go_sem, hc1, hs1, hs2, hs3, hc2, ht1, ht2, ht3]) rfl ⟨rfl, (by repeat (first | exact bb _ | assumption | refine bal ?_ _ | refine bdr ?_ | refine bdn ?_ _ | refine bst ?_ (by simp <;> omega) _ | refine btr ?_ (by assumption)))⟩
  · go_enter Tryd.func31, Tryd.ntmps31
    go_wp2_with fail
    refine (implIsValidLog_any d p 60 a _ (hEH.out.grow (by repeat (first | exact bb _ | assumption | refine bal ?_ _ | refine bdr ?_ | refine bdn ?_ _ | refine bst ?_ (by simp <;> omega) _ | refine btr ?_ (by assumption)))) hd hp).mono ?_
    rintro e w1 ⟨rfl, hb1⟩
    rw [hv]
    obtain ⟨hc1, hf1⟩ := bcell hb1
    have hs1 : w.heap.size + 2 < w1.heap.size := by have := hb1.size; simp at this; omega
    have hs2 : w.heap.size < w1.heap.size := by omega
    have hs3 : w.heap.size + 1 < w1.heap.size := by omega
    go_wp2_with fail
    refine (implIsValidRecord_b _ _ _ hq hr).mono ?_
    rintro e w2 ⟨rfl, hb2⟩
    rw [hg]
    obtain ⟨hc2, hf2⟩ := bcell hb2
    have ht1 : w.heap.size + 2 < w2.heap.size := Nat.lt_of_lt_of_le hs1 hb2.size
    have ht2 : w.heap.size < w2.heap.size := by omega
    have ht3 : w.heap.size + 1 < w2.heap.size := by omega
    go_wp2_with fail
    exact bodyPost_ret (v := .tuple #[.agg #[.string d, .string p, .int .i64 60], .int .i64 2]) (by simp [results, Tryd.results31, go_sem, hc1, hs1, hs2, hs3, hc2, ht1, ht2, ht3]) rfl ⟨rfl, (by repeat (first | exact bb _ | assumption | refine bal ?_ _ | refine bdr ?_ | refine bdn ?_ _ | refine bst ?_ (by simp <;> omega) _ | refine btr ?_ (by assumption)))⟩

set_option maxRecDepth 100000 in
set_option maxHeartbeats 2000000 in
theorem implAppendRecord_yes (d p q r : ByteArray) (c : Int) (a : Addr) (w : World) (hE : EnvE a w) (hd : d.size ≤ 1200000) (hp : p.size ≤ 1500000) (hq : q.size ≤ 3000000) (hr : r.size ≤ 3000000)
    (hv : validB (bl d) (bl p) c = true) (hg : goodB (bl q) (bl r) = true) (h0 : 0 ≤ c) (h1 : c ≤ 59) :
    Calls Tryd.prog 31 #[.agg #[.string d, .string p, .int .i64 c], .agg #[.string q, .string r]] w (LogPost w d (ms (bl p ++ lineB c (bl q) (bl r))) (c + 1) 0) := by
  have hEH := Lib.hid hE
  clear hE
  have hlen := (lineB_len (k := c) h0 h1 hg).1
  have hadd := fun w => run_add (P := Tryd.prog) w p (ms (lineB c (bl q) (bl r))) (by rw [ms_size]; omega)
  rw [bl_ms] at hadd
  have henc : Hid (encB c (bl q) (bl r) = (lineB c (bl q) (bl r), true)) := by
    unfold Hid encB; rw [hg, inB_true.2 ⟨h0, h1⟩]; rfl
  go_enter Tryd.func31, Tryd.ntmps31
  go_wp2_with fail
  refine (implIsValidLog_any d p c a _ (hEH.out.grow (by repeat (first | exact bb _ | assumption | refine bal ?_ _ | refine bdr ?_ | refine bdn ?_ _ | refine bst ?_ (by simp <;> omega) _ | refine btr ?_ (by assumption)))) hd hp).mono ?_
  rintro e w1 ⟨rfl, hb1⟩
  rw [hv]
  obtain ⟨hc1, hf1⟩ := bcell hb1
  have hs1 : w.heap.size + 2 < w1.heap.size := by have := hb1.size; simp at this; omega
  have hs2 : w.heap.size < w1.heap.size := by omega
  have hs3 : w.heap.size + 1 < w1.heap.size := by omega
  have hB1 : Hid (Below w.heap.size w w1) := (by repeat (first | exact bb _ | assumption | refine bal ?_ _ | refine bdr ?_ | refine bdn ?_ _ | refine bst ?_ (by simp <;> omega) _ | refine btr ?_ (by assumption)))
  go_wp2_with fail
  refine (implIsValidRecord_b _ _ _ hq hr).mono ?_
  rintro e w2 ⟨rfl, hb2⟩
  rw [hg]
  obtain ⟨hc2, hf2⟩ := bcell hb2
  have ht1 : w.heap.size + 2 < w2.heap.size := Nat.lt_of_lt_of_le hs1 hb2.size
  have ht2 : w.heap.size < w2.heap.size := by omega
  have ht3 : w.heap.size + 1 < w2.heap.size := by omega
  have hB2 : Hid (Below w.heap.size w w2) := btr hB1.out hb2
  go_wp2_with fail
  refine (implEncodeRecord_any c q r _ (hEH.out.grow hB2.out).env (by omega) (by omega)).mono ?_
  rintro e w3 ⟨rfl, hb3⟩
  rw [henc.out]
  obtain ⟨hc3, hf3⟩ := bcell hb3
  have hu1 : w.heap.size + 2 < w3.heap.size := Nat.lt_of_lt_of_le ht1 hb3.size
  have hu2 : w.heap.size < w3.heap.size := by omega
  have hu3 : w.heap.size + 1 < w3.heap.size := by omega
  have hB3 : Hid (Below w.heap.size w w3) := btr hB2.out hb3
  have z1 : w.heap.size < w.heap.size + 1 + 1 := by omega
  have z2 : w.heap.size + 1 < w.heap.size + 1 + 1 := by omega
  have c0 : w3.cell? ⟨w.heap.size, 0, none⟩ = some (.string d) := (hc3 _ _ ht2).trans ((hc2 _ _ hs2).trans ((hc1 _ _ (by simp <;> omega)).trans (by simp [go_sem, z1, z2])))
  have c1 : w3.cell? ⟨w.heap.size, 1, none⟩ = some (.string p) := (hc3 _ _ ht2).trans ((hc2 _ _ hs2).trans ((hc1 _ _ (by simp <;> omega)).trans (by simp [go_sem, z1, z2])))
  have c2 : w3.cell? ⟨w.heap.size, 2, none⟩ = some (.int .i64 c) := (hc3 _ _ ht2).trans ((hc2 _ _ hs2).trans ((hc1 _ _ (by simp <;> omega)).trans (by simp [go_sem, z1, z2])))
  have f1 : w3.frozen? ⟨w.heap.size, 1, none⟩ = false := (hf3 _ _ ht2).trans ((hf2 _ _ hs2).trans ((hf1 _ _ (by simp <;> omega)).trans (by simp [go_sem, z1, z2])))
  have f2 : w3.frozen? ⟨w.heap.size, 2, none⟩ = false := (hf3 _ _ ht2).trans ((hf2 _ _ hs2).trans ((hf1 _ _ (by simp <;> omega)).trans (by simp [go_sem, z1, z2])))
  have r0 : w3.cell? ⟨w.heap.size + 1 + 1, 0, none⟩ = some (.string ⟨#[]⟩) := (hc3 _ _ ht1).trans ((hc2 _ _ hs1).trans ((hc1 _ _ (by simp <;> omega)).trans (by simp [go_sem, z1, z2])))
  have r1 : w3.cell? ⟨w.heap.size + 1 + 1, 1, none⟩ = some (.string ⟨#[]⟩) := (hc3 _ _ ht1).trans ((hc2 _ _ hs1).trans ((hc1 _ _ (by simp <;> omega)).trans (by simp [go_sem, z1, z2])))
  have r2 : w3.cell? ⟨w.heap.size + 1 + 1, 2, none⟩ = some (.int .i64 0) := (hc3 _ _ ht1).trans ((hc2 _ _ hs1).trans ((hc1 _ _ (by simp <;> omega)).trans (by simp [go_sem, z1, z2])))
  have g0 : w3.frozen? ⟨w.heap.size + 1 + 1, 0, none⟩ = false := (hf3 _ _ ht1).trans ((hf2 _ _ hs1).trans ((hf1 _ _ (by simp <;> omega)).trans (by simp [go_sem, z1, z2])))
  have g1 : w3.frozen? ⟨w.heap.size + 1 + 1, 1, none⟩ = false := (hf3 _ _ ht1).trans ((hf2 _ _ hs1).trans ((hf1 _ _ (by simp <;> omega)).trans (by simp [go_sem, z1, z2])))
  have g2 : w3.frozen? ⟨w.heap.size + 1 + 1, 2, none⟩ = false := (hf3 _ _ ht1).trans ((hf2 _ _ hs1).trans ((hf1 _ _ (by simp <;> omega)).trans (by simp [go_sem, z1, z2])))
  clear hc1 hf1 hc2 hf2 hc3 hf3 hb1 hb2 hb3
  go_wp2_with fail
  refine bodyPost_ret (v := .tuple #[.agg #[.string d, .string (ms (bl p ++ lineB c (bl q) (bl r))), .int .i64 (c + 1)], .int .i64 0]) ?_ rfl ⟨rfl, ?_⟩
  · simp [results, Tryd.results31, go_sem, r0, r1, r2]
  · repeat (refine bst ?_ (by simp <;> omega) _)
    exact hB3.out

theorem implAppendRecord_any (d p q r : ByteArray) (c : Int) (a : Addr) (w : World) (hE : EnvE a w) (hd : d.size ≤ 1200000) (hp : p.size ≤ 1500000) (hq : q.size ≤ 3000000) (hr : r.size ≤ 3000000) :
    Calls Tryd.prog 31 #[.agg #[.string d, .string p, .int .i64 c], .agg #[.string q, .string r]] w (LogPost w d (ms (addB (bl d) (bl p) c (bl q) (bl r)).1) (addB (bl d) (bl p) c (bl q) (bl r)).2.1 (addB (bl d) (bl p) c (bl q) (bl r)).2.2) := by
  unfold addB
  by_cases hv : validB (bl d) (bl p) c = true
  · have hcnt := validB_count hv
    by_cases hg : goodB (bl q) (bl r) = true
    · rw [hv, hg]
      by_cases h60 : c = 60
      · simp only [Bool.and_self, if_true, if_pos h60, ms_bl]
        exact implAppendRecord_no d p q r c 2 a w hE hd hp hq hr (Or.inr (Or.inr ⟨hv, hg, h60, rfl⟩))
      · simp only [Bool.and_self, if_true, if_neg h60]
        exact implAppendRecord_yes d p q r c a w hE hd hp hq hr hv hg hcnt.1 (by omega)
    · have hg' : goodB (bl q) (bl r) = false := by simpa using hg
      rw [hv, hg']
      simp only [Bool.and_false, Bool.false_eq_true, if_false, ms_bl]
      exact implAppendRecord_no d p q r c 1 a w hE hd hp hq hr (Or.inr (Or.inl ⟨hv, hg', rfl⟩))
  · have hv' : validB (bl d) (bl p) c = false := by simpa using hv
    rw [hv']
    simp only [Bool.false_and, Bool.false_eq_true, if_false, ms_bl]
    exact implAppendRecord_no d p q r c 1 a w hE hd hp hq hr (Or.inl ⟨hv', rfl⟩)
end Go.Proofs.YtfcekfomhpmgpaaDoor
