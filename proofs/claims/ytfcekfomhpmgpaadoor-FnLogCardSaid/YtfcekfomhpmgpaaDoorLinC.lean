/- Plain facts: what an appended record does. -/
import Derived.Test.YtfcekfomhpmgpaaDoorLinB
namespace Go.Proofs.YtfcekfomhpmgpaaDoor

theorem openB_nil (n : Nat) : openB n [] = ([], []) := by
  cases n with
  | zero => rfl
  | succ n => exact openB_none (stB_nil _)
theorem add_no {d p q r p2 : List UInt8} {c c2 co : Int} (h : addB d p c q r = (p2, c2, co)) (hco : co ≠ 0) : p2 = p ∧ c2 = c := by
  unfold addB at h
  split at h
  · split at h
    · simp only [Prod.mk.injEq] at h; exact ⟨h.1.symm, h.2.1.symm⟩
    · simp only [Prod.mk.injEq] at h; exact absurd h.2.2.symm hco
  · simp only [Prod.mk.injEq] at h; exact ⟨h.1.symm, h.2.1.symm⟩
theorem add_ok {d p q r p2 : List UInt8} {c c2 : Int} (h : addB d p c q r = (p2, c2, 0)) :
    validB d p c = true ∧ validB d p2 c2 = true ∧ recsB d p2 c2 = recsB d p c ++ [(q, r)] ∧ ((recsB d p c).length : Int) = c ∧ c2 = c + 1 ∧
    recovB (d ++ p2) = (d ++ p2, c2, ((d ++ p2).length : Int), true) ∧ syncB d p2 c2 = (d ++ p2, c2, true) ∧ (d ++ p2).length ≤ 30000 := by
  unfold addB at h
  split at h
  · rename_i hh
    simp only [Bool.and_eq_true] at hh
    obtain ⟨hv, hg⟩ := hh
    split at h
    · simp at h
    · rename_i h60
      simp only [Prod.mk.injEq, and_true] at h
      obtain ⟨rfl, rfl⟩ := h
      obtain ⟨v1, v2, v3, v4⟩ := valid_parts hv
      have hcnt := validB_count hv
      have ha := openB_append 60 (d ++ p) (lineB c q r) v2
      obtain ⟨u, hu⟩ : ∃ u, (openB 60 (d ++ p)).1.length = u := ⟨_, rfl⟩
      rw [hu] at v4 ha
      subst v4
      have hst := stB_of_line (k := (u : Int)) (c := q) (r := r) (by omega) (by omega) hg []
      rw [List.append_nil] at hst
      have hn : 60 - u = (59 - u) + 1 := by omega
      have hk : (60 : Int) - ((59 - u) + 1 : Nat) = (u : Int) := by omega
      have ho := openB_some (n := 59 - u) (l := lineB u q r) (e := (q, r)) (rest := []) (by rw [hk]; exact hst)
      rw [hn, ho, openB_nil, List.append_assoc] at ha
      simp only at ha
      have hlen := openB_len 60 (d ++ (p ++ lineB u q r))
      rw [ha] at hlen
      simp only [List.length_append, List.length_cons, List.length_nil] at hlen
      have hL : (d ++ (p ++ lineB u q r)).length ≤ 30000 := by simp only [List.length_append]; omega
      have hv2 : validB d (p ++ lineB u q r) ((u : Int) + 1) = true := by
        unfold validB
        rw [ha]
        simp only [v3, List.isEmpty_nil, List.length_append, List.length_cons, List.length_nil, hu] at hL ⊢
        simp
        omega
      refine ⟨hv, hv2, ?_, ?_, rfl, ?_, ?_, hL⟩
      · unfold recsB
        rw [if_pos hv, if_pos hv2, ha]
      · unfold recsB
        rw [if_pos hv, hu]
      · unfold recovB
        rw [if_pos (by omega), ha]
        simp only [List.length_nil, Nat.sub_zero, List.take_length]
        simp [hu]
      · unfold syncB
        rw [if_pos hv2]
  · simp at h
end Go.Proofs.YtfcekfomhpmgpaaDoor
