/- Plain facts: what a reader makes of one line, and of what it has read. -/
import Derived.Test.YtfcekfomhpmgpaaDoorLogD
import Derived.Test.YtfcekfomhpmgpaaDoorPlN
namespace Go.Proofs.YtfcekfomhpmgpaaDoor

theorem stB_of_line {k : Int} {c r : List UInt8} (h0 : 0 ≤ k) (h1 : k ≤ 59) (g : goodB c r = true) (rest : List UInt8) : stB (lineB k c r ++ rest) k = some ((c, r), rest) := by
  obtain ⟨b, hb, hn, _⟩ := line_shape (e := (c, r)) h0 g
  have hb' : lineB k c r = b ++ [10] := hb
  have e1 : cutP 10 (b ++ 10 :: rest) = (b, rest, true) := cutP_some hn (by rfl)
  unfold stB
  rw [hb', show b ++ [10] ++ rest = b ++ 10 :: rest by simp, e1]
  simp only
  rw [readB_complete h0 g hb', inB_true.2 ⟨h0, h1⟩]
  rfl
theorem itoa_zero {k : Int} (h0 : 0 ≤ k) (h1 : k ≤ 59) (h : Lib.itoa k = Lib.itoa 0) : k = 0 := by
  obtain ⟨u, rfl⟩ := Int.eq_ofNat_of_zero_le h0
  rw [itoa_nat, show (0 : Int) = ((0 : Nat) : Int) from rfl, itoa_nat, Lib.decDigits_one (i := 0) (by omega)] at h
  by_cases hu : u < 10
  · rw [Lib.decDigits_one hu] at h
    have h2 := congrArg UInt8.toNat (List.head_eq_of_cons_eq h)
    simp at h2
    omega
  · rw [Lib.decDigits_two hu (by omega)] at h
    simp at h
theorem stB_other {k : Int} {c r : List UInt8} (h0 : 0 ≤ k) (h1 : k ≤ 59) (hk : k ≠ 0) (g : goodB c r = true) : stB (lineB k c r) 0 = none := by
  cases h : stB (lineB k c r) 0 with
  | none => rfl
  | some x =>
    exfalso
    obtain ⟨e, rest⟩ := x
    obtain ⟨_, _, ge, hl, hc, he, _, hr⟩ := stB_facts h
    obtain ⟨b, hb, hn, _⟩ := line_shape (e := (c, r)) h0 g
    have hb' : lineB k c r = b ++ [10] := hb
    have e1 : cutP 10 (b ++ [10]) = (b, [], true) := cutP_some hn (by rfl)
    rw [hb', e1] at hr
    obtain ⟨g2, hl2⟩ := readB_sound hr
    simp only at hl2 g2
    have t1 := line_cut h0 g hb'
    have t2 := line_cut (Int.le_refl 0) g2 hl2
    rw [t1] at t2
    have u1 : (cutP 32 (textB k c r)).1 = Lib.itoa k := by unfold textB; rw [cutP_some (itoa_no h0) (by rfl)]
    rw [t2] at u1
    unfold textB at u1
    rw [cutP_some (itoa_no (Int.le_refl 0)) (by rfl)] at u1
    exact hk (itoa_zero h0 h1 u1.symm)
theorem openB_one {c r : List UInt8} (g : goodB c r = true) : openB 60 (lineB 0 c r) = ([(c, r)], []) := by
  have h := stB_of_line (k := 0) (c := c) (r := r) (by omega) (by omega) g []
  rw [List.append_nil] at h
  have := openB_some (n := 59) (l := lineB 0 c r) (e := (c, r)) (rest := []) h
  rw [show (60 : Nat) = 59 + 1 from rfl, this]
  have e2 : openB 59 ([] : List UInt8) = ([], []) := openB_none (n := 58) (stB_nil _)
  rw [e2]
theorem openB_other {k : Int} {c r : List UInt8} (h0 : 0 ≤ k) (h1 : k ≤ 59) (hk : k ≠ 0) (g : goodB c r = true) : openB 60 (lineB k c r) = ([], lineB k c r) :=
  openB_none (n := 59) (stB_other h0 h1 hk g)
/-- What is read back from one record's line. -/
theorem recov_line {k : Int} {c r l : List UInt8} (h : encB k c r = (l, true)) : (0 < (recovB l).2.2.1 ↔ k = 0) ∧ (k = 0 → (recovB l).2.1 = 1) ∧ (k ≠ 0 → (recovB l).2.2.1 = 0) := by
  unfold encB at h
  split at h
  · rename_i hh
    simp only [Bool.and_eq_true] at hh
    obtain ⟨hk, g⟩ := hh
    have hk := inB_true.1 hk
    obtain rfl : lineB k c r = l := by simpa using h
    have hlen := lineB_len hk.1 hk.2 g
    unfold recovB
    rw [if_pos (by omega)]
    by_cases hz : k = 0
    · subst hz
      rw [openB_one g]
      simp
      omega
    · rw [openB_other hk.1 hk.2 hz g]
      simp [hz]
  · simp at h
theorem enc_len (k : Int) (c r : List UInt8) : (encB k c r).1.length ≤ 400 := by
  unfold encB
  split
  · rename_i hh
    simp only [Bool.and_eq_true] at hh
    have hk := inB_true.1 hh.1
    exact (lineB_len hk.1 hk.2 hh.2).1
  · simp
theorem enc_no {k : Int} {c r l : List UInt8} (h : encB k c r = (l, false)) : l = [] := by
  unfold encB at h
  split at h
  · simp at h
  · simpa using h.symm
/-- What has been read is a valid log with nothing pending. -/
theorem recov_valid {l m : List UInt8} {n e : Int} (h : recovB l = (m, n, e, true)) : validB m [] n = true ∧ syncB m [] n = (m, n, true) ∧ e = m.length ∧ m = l.take m.length := by
  unfold recovB at h
  split at h
  · rename_i hl
    simp only [Prod.mk.injEq] at h
    obtain ⟨h1, h2, h3, _⟩ := h
    have ht := openB_take 60 l
    rw [h1] at ht
    have hz := (openB_len 60 l).2.2
    have hm : m.length = l.length - (openB 60 l).2.length := by rw [← h1, List.length_take]; omega
    have hv : validB m [] n = true := by
      unfold validB
      rw [List.append_nil, ht]
      simp [h2]
      omega
    refine ⟨hv, ?_, by omega, ?_⟩
    · unfold syncB; rw [if_pos hv, List.append_nil]
    · rw [hm, h1]
  · simp at h
end Go.Proofs.YtfcekfomhpmgpaaDoor
