/- Contracts: logs in the reference. -/
import Derived.Test.YtfcekfomhpmgpaaDoorLogC
namespace Go.Proofs.YtfcekfomhpmgpaaDoor
open Go.RowKit

/-- Whether a log is valid. -/
def validB (d p : List UInt8) (c : Int) : Bool :=
  decide ((d.length : Int) + p.length ≤ 30000) && (openB 60 (d ++ p)).2.isEmpty && (openB 60 d).2.isEmpty && (((openB 60 (d ++ p)).1.length : Int) == c)

theorem left_nil {l m : List UInt8} (_h : m.length ≤ l.length) : m.isEmpty = ((l.length : Int) - m.length == (l.length : Int)) := by
  cases m with
  | nil => simp
  | cons b m => simp; omega

set_option maxRecDepth 100000 in
set_option maxHeartbeats 1000000 in
theorem l33Log_any (d p : ByteArray) (c : Int) (w : World) (hd : d.size ≤ 1000000000) (hp : p.size ≤ 1000000000) :
    Calls Tryd.prog 70 #[.agg #[.string d, .string p, .int .i64 c]] w fun e w' => e = .returned (.bool (validB (bl d) (bl p) c)) ∧ Below w.heap.size w w' := by
  by_cases hbig : (30000 : Int) < (d.size : Int) + p.size
  · have HV : Hid (validB (bl d) (bl p) c = false) := by unfold Hid validB; rw [bl_length, bl_length, decide_eq_false (by omega)]; rfl
    go_enter Tryd.func70, Tryd.ntmps70
    go_wp2_with fail
    go_ret
    exact ⟨ret_bool HV.out.symm, (by repeat (first | exact bb _ | assumption | refine bal ?_ _ | refine bdr ?_ | refine bdn ?_ _ | refine bst ?_ (by simp <;> omega) _ | refine btr ?_ (by assumption)))⟩
  have hbig' : (d.size : Int) + p.size ≤ 30000 := by omega
  have hadd := fun w => run_add (P := Tryd.prog) w d p (by omega)
  have hdp : Hid (bl (ms (bl d ++ bl p)) = bl d ++ bl p) := rfl
  have hz : (ms (bl d ++ bl p)).size ≤ 1000000 := by rw [ms_size, List.length_append, bl_length, bl_length]; omega
  clear hbig
  go_enter Tryd.func70, Tryd.ntmps70
  go_wp2_with fail
  refine (l33Open_any (ms (bl d ++ bl p)) _ hz).mono ?_
  rintro e w1 ⟨v1, F1, n1, rfl, hn1, hr1, _, _, hb1⟩
  rw [hdp.out] at hn1 hr1
  obtain ⟨a1, c1, rfl, _, _⟩ := Ty.row_len hr1
  obtain ⟨hc1, hf1⟩ := bcell hb1
  obtain ⟨m1, hm1⟩ : ∃ m, m = (openB 60 (bl d ++ bl p)).1.length := ⟨_, rfl⟩
  rw [← hm1]
  replace hn1 := (show Hid (n1 = ((bl d ++ bl p).length : Int) - (openB 60 (bl d ++ bl p)).2.length) from hn1)
  replace hm1 := (show Hid (m1 = (openB 60 (bl d ++ bl p)).1.length) from hm1)
  clear hr1
  have hs1 : w.heap.size < w1.heap.size := by have := hb1.size; simp at this; omega
  go_wp2_with fail
  refine (l33Open_any d _ (by omega)).mono ?_
  rintro e w2 ⟨v2, F2, n2, rfl, hn2, hr2, _, _, hb2⟩
  obtain ⟨a2, c2, rfl, _, _⟩ := Ty.row_len hr2
  obtain ⟨hc2, hf2⟩ := bcell hb2
  replace hn2 := (show Hid (n2 = ((bl d).length : Int) - (openB 60 (bl d)).2.length) from hn2)
  clear hr2
  have HV : Hid (validB (bl d) (bl p) c = ((n1 == (d.size : Int) + p.size) && (n2 == (d.size : Int)) && ((m1 : Int) == c))) := by
    unfold Hid validB
    rw [left_nil (openB_len 60 (bl d ++ bl p)).2.2, left_nil (openB_len 60 (bl d)).2.2, ← hn1.out, ← hn2.out, ← hm1.out, bl_length, bl_length, decide_eq_true hbig', List.length_append, bl_length, bl_length]
    simp
  go_wp2_with fail
  all_goals go_ret
  all_goals exact ⟨ret_bool (by rw [HV.out]; simp [*]), (by repeat (first | exact bb _ | assumption | refine bal ?_ _ | refine bdr ?_ | refine bdn ?_ _ | refine bst ?_ (by simp <;> omega) _ | refine btr ?_ (by assumption)))⟩

set_option maxHeartbeats 400000 in
theorem specIsValidLog_any (d p : ByteArray) (c : Int) (w : World) (hd : d.size ≤ 1000000000) (hp : p.size ≤ 1000000000) :
    Calls Tryd.prog 23 #[.agg #[.string d, .string p, .int .i64 c]] w fun e w' => e = .returned (.bool (validB (bl d) (bl p) c)) ∧ Below w.heap.size w w' := by
  go_enter Tryd.func23, Tryd.ntmps23
  go_wp2_with (go_at_call 70; refine (l33Log_any _ _ _ _ (by assumption) (by assumption)).mono ?_; rintro e w1 ⟨rfl, hb1⟩)
  go_ret
  exact ⟨rfl, (by repeat (first | exact bb _ | assumption | refine bal ?_ _ | refine bdr ?_ | refine bdn ?_ _ | refine bst ?_ (by simp <;> omega) _ | refine btr ?_ (by assumption)))⟩

/-- A synced log. -/
def syncB (d p : List UInt8) (c : Int) : List UInt8 × Int × Bool := if validB d p c then (d ++ p, c, true) else ([], 0, false)

set_option maxHeartbeats 1000000 in
theorem specSyncLog_any (d p : ByteArray) (c : Int) (w : World) (hd : d.size ≤ 1000000000) (hp : p.size ≤ 1000000000) :
    Calls Tryd.prog 28 #[.agg #[.string d, .string p, .int .i64 c]] w fun e w' => e = .returned (.tuple #[.agg #[.string (ms (syncB (bl d) (bl p) c).1), .string ⟨#[]⟩, .int .i64 (syncB (bl d) (bl p) c).2.1], .bool (syncB (bl d) (bl p) c).2.2]) ∧ Below w.heap.size w w' := by
  have hadd := fun w => run_add (P := Tryd.prog) w d p (by omega)
  by_cases hv : validB (bl d) (bl p) c = true
  · have HF : Hid (syncB (bl d) (bl p) c = (bl d ++ bl p, c, true)) := by unfold Hid syncB; rw [if_pos hv]
    rw [HF.out]
    go_enter Tryd.func28, Tryd.ntmps28
    go_wp2_with fail
    refine (l33Log_any _ _ _ _ (by assumption) (by assumption)).mono ?_
    rintro e w1 ⟨rfl, hb1⟩
    rw [hv]
    obtain ⟨hc1, hf1⟩ := bcell hb1
    have hs1 : w.heap.size + 1 < w1.heap.size := by have := hb1.size; simp at this; omega
    have hs2 : w.heap.size < w1.heap.size := by omega
    go_wp2_with fail
    exact bodyPost_ret (v := .tuple #[.agg #[.string (ms (bl d ++ bl p)), .string ⟨#[]⟩, .int .i64 c], .bool true]) (by simp [results, Tryd.results28, go_sem, hc1, hs1, hs2]) rfl ⟨rfl, (by repeat (first | exact bb _ | assumption | refine bal ?_ _ | refine bdr ?_ | refine bdn ?_ _ | refine bst ?_ (by simp <;> omega) _ | refine btr ?_ (by assumption)))⟩
  · have hv' : validB (bl d) (bl p) c = false := by simpa using hv
    have HF : Hid (syncB (bl d) (bl p) c = ([], 0, false)) := by unfold Hid syncB; rw [if_neg hv]
    rw [HF.out]
    clear hv
    go_enter Tryd.func28, Tryd.ntmps28
    go_wp2_with fail
    refine (l33Log_any _ _ _ _ (by assumption) (by assumption)).mono ?_
    rintro e w1 ⟨rfl, hb1⟩
    rw [hv']
    obtain ⟨hc1, hf1⟩ := bcell hb1
    have hs1 : w.heap.size + 1 < w1.heap.size := by have := hb1.size; simp at this; omega
    have hs2 : w.heap.size < w1.heap.size := by omega
    go_wp2_with fail
    exact bodyPost_ret (v := .tuple #[.agg #[.string (ms []), .string ⟨#[]⟩, .int .i64 0], .bool false]) (by simp [results, Tryd.results28, go_sem, hc1, hs1, hs2]; rfl) rfl ⟨rfl, (by repeat (first | exact bb _ | assumption | refine bal ?_ _ | refine bdr ?_ | refine bdn ?_ _ | refine bst ?_ (by simp <;> omega) _ | refine btr ?_ (by assumption)))⟩

/-- A recovered log. -/
def recovB (l : List UInt8) : List UInt8 × Int × Int × Bool :=
  if (l.length : Int) ≤ 30000 then (l.take (l.length - (openB 60 l).2.length), ((openB 60 l).1.length : Int), (l.length : Int) - (openB 60 l).2.length, true) else ([], 0, 0, false)

set_option maxRecDepth 100000 in
set_option maxHeartbeats 1000000 in
theorem specRecoverLog_any (s : ByteArray) (w : World) (hs : s.size ≤ 1000000000) :
    Calls Tryd.prog 19 #[.string s] w fun e w' => e = .returned (.tuple #[.agg #[.string (ms (recovB (bl s)).1), .string ⟨#[]⟩, .int .i64 (recovB (bl s)).2.1], .int .i64 (recovB (bl s)).2.2.1, .bool (recovB (bl s)).2.2.2]) ∧ Below w.heap.size w w' := by
  by_cases hbig : (30000 : Int) < (s.size : Int)
  · have HF : Hid (recovB (bl s) = ([], 0, 0, false)) := by unfold Hid recovB; rw [bl_length, if_neg (by omega)]
    rw [HF.out]
    go_enter Tryd.func19, Tryd.ntmps19
    go_wp2_with fail
    exact bodyPost_ret (v := .tuple #[.agg #[.string (ms []), .string ⟨#[]⟩, .int .i64 0], .int .i64 0, .bool false]) (by simp [results, Tryd.results19, go_sem]; rfl) rfl ⟨rfl, (by repeat (first | exact bb _ | assumption | refine bal ?_ _ | refine bdr ?_ | refine bdn ?_ _ | refine bst ?_ (by simp <;> omega) _ | refine btr ?_ (by assumption)))⟩
  have hbig' : (s.size : Int) ≤ 30000 := by omega
  have hl := (openB_len 60 (bl s)).2.2
  rw [bl_length] at hl
  obtain ⟨n1, hn1⟩ : ∃ n : Nat, n = s.size - (openB 60 (bl s)).2.length := ⟨_, rfl⟩
  obtain ⟨m1, hm1⟩ : ∃ m, m = (openB 60 (bl s)).1.length := ⟨_, rfl⟩
  have HF : Hid (recovB (bl s) = (bl (s.extract 0 n1), (m1 : Int), (n1 : Int), true)) := by
    unfold Hid recovB; rw [bl_length, if_pos hbig', bl_extract, ← hn1, ← hm1]; simp; omega
  rw [HF.out]
  have hnn : n1 ≤ s.size := by omega
  replace hm1 := (show Hid (m1 = (openB 60 (bl s)).1.length) from hm1)
  replace hn1 := (show Hid (n1 = s.size - (openB 60 (bl s)).2.length) from hn1)
  clear hbig
  go_enter Tryd.func19, Tryd.ntmps19
  go_wp2_with fail
  refine (l33Open_any s _ (by omega)).mono ?_
  rintro e w1 ⟨v1, F1, n2, rfl, hn2, hr1, _, _, hb1⟩
  obtain ⟨a1, c1, rfl, _, _⟩ := Ty.row_len hr1
  obtain rfl : n2 = (n1 : Int) := by rw [hn2, hn1.out, bl_length]; omega
  rw [← hm1.out]
  obtain ⟨hc1, hf1⟩ := bcell hb1
  have hs1 : w.heap.size < w1.heap.size := by have := hb1.size; simp at this; omega
  clear hn2 hr1 hl
  go_wp2_with fail
  exact bodyPost_ret (v := .tuple #[.agg #[.string (s.extract 0 n1), .string ⟨#[]⟩, .int .i64 m1], .int .i64 n1, .bool true]) (by simp [results, Tryd.results19, go_sem, hc1, hs1]) rfl ⟨by rw [ms_bl], (by repeat (first | exact bb _ | assumption | refine bal ?_ _ | refine bdr ?_ | refine bdn ?_ _ | refine bst ?_ (by simp <;> omega) _ | refine btr ?_ (by assumption)))⟩
end Go.Proofs.YtfcekfomhpmgpaaDoor
