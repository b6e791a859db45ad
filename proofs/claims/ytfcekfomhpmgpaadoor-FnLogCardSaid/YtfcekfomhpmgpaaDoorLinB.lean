/- Plain facts: what is read back after a crash. -/
import Derived.Test.YtfcekfomhpmgpaaDoorLinA
import Derived.Test.YtfcekfomhpmgpaaDoorLogE
import Derived.Test.YtfcekfomhpmgpaaDoorLogL
namespace Go.Proofs.YtfcekfomhpmgpaaDoor

theorem turn_ten (c : UInt8) (h : c ≠ 245) : turnB c ≠ 10 := by
  intro e
  apply h
  have h1 := turnB_nat c
  rw [e] at h1
  have h2 := c.toNat_lt
  have h3 : ((10 : UInt8).toNat : Int) = 10 := rfl
  rw [h3] at h1
  apply UInt8.toNat_inj.1
  show c.toNat = 245
  omega
theorem valid_parts {d p : List UInt8} {c : Int} (h : validB d p c = true) : (d.length : Int) + p.length ≤ 30000 ∧ (openB 60 (d ++ p)).2 = [] ∧ (openB 60 d).2 = [] ∧ ((openB 60 (d ++ p)).1.length : Int) = c := by
  unfold validB at h
  simp only [Bool.and_eq_true, decide_eq_true_eq, List.isEmpty_iff, beq_iff_eq] at h
  exact ⟨h.1.1.1, h.1.1.2, h.1.2, h.2⟩
theorem torn_read {n : Nat} {p : List UInt8} {k : Nat} (t : Bool) (h : (openB n p).2 = []) (hk : k ≤ p.length) : ∃ j, (openB n (tearB t (p.take k))).1 = (openB n p).1.take j := by
  cases t with
  | false => exact openB_cut n p k h
  | true =>
    rcases Nat.eq_zero_or_pos k with rfl | hp
    · have : tearB true (p.take 0) = p.take 0 := by simp [tearB]
      rw [this]
      exact openB_cut n p 0 h
    · exact openB_torn turn_ten n p k h hk hp
/-- What is read back after a crash. -/
theorem crash_read {d p s m : List UInt8} {c keep n e : Int} {t told : Bool} (h : crashB d p c keep t = (s, true)) (hr : recovB s = (m, n, e, told)) :
    told = true ∧ e ≤ s.length ∧ (d.length : Int) ≤ e ∧ s.length ≤ 30000 ∧ m = s.take e.toNat ∧ validB m [] n = true ∧ validB d p c = true ∧ ∃ j, recsB m [] n = (recsB d p c).take j := by
  unfold crashB at h
  split at h
  · rename_i hh
    simp only [Bool.and_eq_true] at hh
    obtain ⟨hv, hk⟩ := hh
    have hk := inB_true.1 hk
    obtain ⟨v1, v2, v3, v4⟩ := valid_parts hv
    obtain rfl : d ++ tearB t (p.take keep.toNat) = s := by simpa using h
    generalize hx : tearB t (p.take keep.toNat) = x at hr ⊢
    have hxl : x.length ≤ p.length := by rw [← hx, tearB_len, List.length_take]; omega
    have ha := openB_append 60 d x v3
    have hb := openB_append 60 d p v3
    obtain ⟨j, hj⟩ := torn_read (n := 60 - (openB 60 d).1.length) (p := p) (k := keep.toNat) t (by rw [hb] at v2; exact v2) (by omega)
    rw [hx] at hj
    have hz := (openB_len (60 - (openB 60 d).1.length) x).2.2
    have h2 : (openB 60 (d ++ x)).2.length ≤ x.length := by rw [ha]; exact hz
    have hl : (d ++ x).length = d.length + x.length := List.length_append
    unfold recovB at hr
    rw [if_pos (by omega)] at hr
    simp only [Prod.mk.injEq] at hr
    obtain ⟨h3, h4, h5, h6⟩ := hr
    have ht := openB_take 60 (d ++ x)
    rw [h3] at ht
    have hm : validB m [] n = true := (recov_valid (l := d ++ x) (m := m) (n := n) (e := e) (by unfold recovB; rw [if_pos (by omega), h3, h4, h5])).1
    refine ⟨h6.symm, by omega, by omega, by omega, ?_, hm, hv, (openB 60 d).1.length + j, ?_⟩
    · rw [← h3, ← h5]
      congr 1
      omega
    · unfold recsB
      rw [if_pos hm, if_pos hv, List.append_nil, ht, hb, ha]
      simp only
      rw [hj, List.take_length_add_append]
  · simp at h
theorem crash_no {d p s : List UInt8} {c keep : Int} {t : Bool} (h : crashB d p c keep t = (s, false)) : s = [] := by
  unfold crashB at h
  split at h
  · simp at h
  · simpa using h.symm
end Go.Proofs.YtfcekfomhpmgpaaDoor
