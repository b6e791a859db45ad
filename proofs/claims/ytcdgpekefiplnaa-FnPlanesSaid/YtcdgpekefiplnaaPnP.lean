/- Plain facts for the law of inequalities. -/
import Derived.Test.YtcdgpekefiplnaaPnM
namespace Go.Proofs.Ytcdgpekefiplnaa

theorem cntP_congr {p q : Nat → Bool} {k : Nat} (h : ∀ m, m < k → p m = q m) : cntP p k = cntP q k := by
  unfold cntP
  congr 1
  exact List.filter_congr fun m hm => h m (List.mem_range.1 hm)
theorem cntP_none {p : Nat → Bool} {k : Nat} (h : ∀ m, m < k → p m = false) : cntP p k = 0 := by
  unfold cntP
  rw [List.length_eq_zero_iff, List.filter_eq_nil_iff]
  intro m hm
  simp [h m (List.mem_range.1 hm)]
theorem cntP_all {p : Nat → Bool} {k : Nat} (h : ∀ m, m < k → p m = true) : cntP p k = k := by
  unfold cntP
  rw [List.filter_eq_self.2 fun m hm => h m (List.mem_range.1 hm)]
  simp
theorem clause_apart {vars : Int} {c : List Int} (h : clauseB vars c = true) : Apart vars.toNat c := by
  have hp := clause_parts h
  refine ⟨fun l hl => ?_, (clause_rising h).imp fun h => by omega⟩
  have := hp.2.1 l hl
  exact ⟨this.1, by omega⟩
theorem clause_12 {vars : Int} {c : List Int} (h : clauseB vars c = true) : c.length ≤ 12 := by
  have hp := clause_parts h
  exact rising_len (m := 12) (k := 1) (clause_rising h) (fun l hl => by have := hp.2.1 l hl; omega)
theorem clQ_good {n : Nat} {c : List Int} (h : clauseB n c = true) : goodQ n (clQ n c).2 (clQ n c).1 = true := by
  have hp := clause_parts h
  have h12 := clause_12 h
  obtain ⟨h1, ⟨h2, h3⟩, h4, -⟩ := clQ_facts n c
  unfold goodQ inB
  simp only [Bool.and_eq_true, decide_eq_true_eq, List.all_eq_true]
  refine ⟨⟨⟨⟨by omega, by omega⟩, by omega⟩, by omega, by omega⟩, fun x hx => ?_⟩
  have := h4 x hx
  unfold coefB inB
  simp only [Bool.and_eq_true, decide_eq_true_eq]
  omega
/-- The inequality of a clause holds just for the models. -/
theorem clQ_count {n : Nat} {c : List Int} (h : clauseB n c = true) : cntP (holdsQ (clQ n c).1 (clQ n c).2) (2 ^ n) = cntP (modT [c]) (2 ^ n) :=
  cntP_congr fun m _ => by
    have := (clQ_holds (clause_apart h) m).2
    simpa [modT] using this
theorem high_no {cs : List Int} {b : Int} {k : Nat} (h : highK cs cs.length < b) : cntP (holdsQ cs b) k = 0 :=
  cntP_none fun m _ => by
    have := (sum_range cs m cs.length).2
    unfold holdsQ
    rw [decide_eq_false_iff_not]
    omega
theorem low_all {cs : List Int} {b : Int} {k : Nat} (h : b ≤ lowK cs cs.length) : cntP (holdsQ cs b) k = k :=
  cntP_all fun m _ => by
    have := (sum_range cs m cs.length).1
    unfold holdsQ
    rw [decide_eq_true_iff]
    omega
end Go.Proofs.Ytcdgpekefiplnaa
