/- Plain facts: a log that is cut off and torn is read as a prefix. No program in sight. -/
import Derived.Test.YtfcekfomhpmgpaaDoorPlM
namespace Go.Proofs.YtfcekfomhpmgpaaDoor

theorem hasB_modify {l : List UInt8} {f : UInt8 → UInt8} {i : Nat} (h : hasB l 10 = false) (hf : ∀ c ∈ l, f c ≠ 10) : hasB (l.modify i f) 10 = false := by
  simp only [hasB, List.any_eq_false] at *
  intro x hx
  obtain ⟨j, hj, rfl⟩ := List.getElem_of_mem hx
  have hj' : j < l.length := by simpa using hj
  rw [List.getElem_modify]
  split
  · have h1 := hf _ (List.getElem_mem hj')
    intro e
    apply h1
    apply UInt8.toNat_inj.1
    simp only [beq_iff_eq] at e
    show (f l[j]).toNat = 10
    omega
  · exact h _ (List.getElem_mem hj')
theorem modify_append {d l : List UInt8} {f : UInt8 → UInt8} (h : l ≠ []) : (d ++ l).modify ((d ++ l).length - 1) f = d ++ l.modify (l.length - 1) f := by
  have h1 : 0 < l.length := List.length_pos_iff.2 h
  refine List.ext_getElem (by simp) fun j h2 h3 => ?_
  rw [List.getElem_modify]
  by_cases hj : j < d.length
  · rw [if_neg (by rw [List.length_append]; omega), List.getElem_append_left hj, List.getElem_append_left hj]
  · rw [List.getElem_append_right (by omega), List.getElem_append_right (by omega), List.getElem_modify]
    by_cases e : j = d.length + l.length - 1
    · rw [if_pos (by rw [List.length_append]; omega), if_pos (by omega)]
    · rw [if_neg (by rw [List.length_append]; omega), if_neg (by omega)]

theorem openB_cut : ∀ (n : Nat) (p : List UInt8) (keep : Nat), (openB n p).2 = [] → ∃ j, (openB n (p.take keep)).1 = (openB n p).1.take j
  | 0, p, keep, h => ⟨0, rfl⟩
  | n + 1, p, keep, h => by
    cases hs : stB p (60 - (n + 1 : Nat)) with
    | none =>
      rw [openB_none hs] at h
      have hp : p = [] := h
      subst hp
      exact ⟨0, by rw [List.take_nil, openB_none (stB_nil _)]; rfl⟩
    | some z =>
      obtain ⟨e, rest⟩ := z
      obtain ⟨h0, h1, g, hl, _⟩ := stB_facts hs
      rw [openB_some hs] at h ⊢
      obtain ⟨b, hb, hb1, hb2⟩ := line_shape h0 g
      by_cases hk : (lineB (60 - (n + 1 : Nat)) e.1 e.2).length ≤ keep
      · obtain ⟨j, hj⟩ := openB_cut n rest (keep - (lineB (60 - (n + 1 : Nat)) e.1 e.2).length) h
        refine ⟨j + 1, ?_⟩
        have e1 : p.take keep = lineB (60 - (n + 1 : Nat)) e.1 e.2 ++ rest.take (keep - (lineB (60 - (n + 1 : Nat)) e.1 e.2).length) := by
          conv => lhs; rw [hl]
          rw [List.take_append, List.take_of_length_le hk]
        rw [e1, openB_some (stB_line hs _), hj]
        rfl
      · refine ⟨0, ?_⟩
        have e1 : p.take keep = b.take keep := by
          rw [hl, hb, List.append_assoc, List.take_append_of_le_length (by rw [hb] at hk; simp at hk; omega)]
        rw [e1, openB_no (hasB_take hb1 keep)]
        rfl

theorem openB_torn {f : UInt8 → UInt8} (hf : ∀ c, c ≠ 245 → f c ≠ 10) : ∀ (n : Nat) (p : List UInt8) (keep : Nat), (openB n p).2 = [] → keep ≤ p.length → 0 < keep → ∃ j, (openB n ((p.take keep).modify ((p.take keep).length - 1) f)).1 = (openB n p).1.take j
  | 0, p, keep, h, _, _ => ⟨0, rfl⟩
  | n + 1, p, keep, h, hkp, hk0 => by
    cases hs : stB p (60 - (n + 1 : Nat)) with
    | none =>
      rw [openB_none hs] at h
      have hp : p = [] := h
      subst hp
      simp at hkp
      omega
    | some z =>
      obtain ⟨e, rest⟩ := z
      obtain ⟨h0, h1, g, hl, _⟩ := stB_facts hs
      rw [openB_some hs] at h ⊢
      obtain ⟨b, hb, hb1, hb2⟩ := line_shape h0 g
      have hpl : p.length = (lineB (60 - (n + 1 : Nat)) e.1 e.2).length + rest.length := by conv => lhs; rw [hl, List.length_append]
      by_cases hk : (lineB (60 - (n + 1 : Nat)) e.1 e.2).length < keep
      · obtain ⟨j, hj⟩ := openB_torn hf n rest (keep - (lineB (60 - (n + 1 : Nat)) e.1 e.2).length) h (by omega) (by omega)
        refine ⟨j + 1, ?_⟩
        have e1 : p.take keep = lineB (60 - (n + 1 : Nat)) e.1 e.2 ++ rest.take (keep - (lineB (60 - (n + 1 : Nat)) e.1 e.2).length) := by
          conv => lhs; rw [hl]
          rw [List.take_append, List.take_of_length_le (by omega)]
        have hne : rest.take (keep - (lineB (60 - (n + 1 : Nat)) e.1 e.2).length) ≠ [] := by
          intro h2
          have h3 := congrArg List.length h2
          rw [List.length_take, List.length_nil] at h3
          omega
        rw [e1, modify_append hne, openB_some (stB_line hs _), hj]
        rfl
      · refine ⟨0, ?_⟩
        have hno : hasB ((p.take keep).modify ((p.take keep).length - 1) f) 10 = false := by
          by_cases hk2 : keep = (lineB (60 - (n + 1 : Nat)) e.1 e.2).length
          · have e1 : p.take keep = b ++ [10] := by
              rw [hk2]
              conv => lhs; rw [hl]
              rw [List.take_left, hb]
            rw [e1, modify_append (by simp)]
            rw [hasB_append, hb1]
            have h10 := hf 10 (by decide)
            show hasB [f 10] 10 = false
            simp only [hasB, List.any_cons, List.any_nil, Bool.or_false]
            cases hq : ((f 10).toNat : Int) == 10 with
            | false => rfl
            | true =>
              exfalso
              apply h10
              apply UInt8.toNat_inj.1
              simp only [beq_iff_eq] at hq
              show (f 10).toNat = 10
              omega
          · have e1 : p.take keep = b.take keep := by
              rw [hl, hb, List.append_assoc, List.take_append_of_le_length (by rw [hb] at hk hk2; simp at hk hk2; omega)]
            rw [e1]
            exact hasB_modify (hasB_take hb1 keep) fun c hc => hf c (hb2 c (List.mem_of_mem_take hc))
        rw [openB_no hno]
        rfl
end Go.Proofs.YtfcekfomhpmgpaaDoor
