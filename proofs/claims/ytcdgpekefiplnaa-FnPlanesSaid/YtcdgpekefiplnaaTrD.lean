/- Contracts: satisfiable Cnfs, counts of models, in the program. -/
import Derived.Test.YtcdgpekefiplnaaTrC
import Derived.Test.YtcdgpekefiplnaaOwnB
namespace Go.Proofs.Ytcdgpekefiplnaa
open Go.RowKit

/-- From a row of rows to clauses that can be read. -/
theorem cls_row {wr : Bool} {w : World} {v : Value} {xss : List (List Int)} {F : List Nat} (h : (Ty.slice Ty.int).row wr w v xss F) : ∃ A c, v = .slice A xss.length c ∧ ClsAt w A xss := by
  obtain ⟨a, cap, rfl, _, _, h3⟩ := row_slices h
  refine ⟨a, cap, rfl, ⟨fun j hj => ?_⟩⟩
  rcases h3 with ⟨rfl, _⟩ | ⟨_, b, off, rfl, _, hc⟩
  · exact absurd hj (by simp)
  · obtain ⟨u, Fk, hu, hr, _⟩ := hc j hj
    obtain ⟨B, c, rfl, hI⟩ := ints_row hr
    exact ⟨b, off, B, c, rfl, hu.1, hI⟩
theorem lit_small {vars l : Int} (hv : 0 ≤ vars ∧ vars ≤ 12) (h : litB vars l = true) : l ≠ 0 ∧ -vars ≤ l ∧ l ≤ vars := by
  unfold litB inB at h
  rw [negV_small (by unfold I64; omega) (by omega)] at h
  simp only [Bool.and_eq_true, decide_eq_true_eq, bne_iff_ne] at h
  omega
theorem clause_parts {vars : Int} {c : List Int} (h : clauseB vars c = true) : (0 ≤ vars ∧ vars ≤ 12) ∧ (∀ l ∈ c, l ≠ 0 ∧ -vars ≤ l ∧ l ≤ vars) ∧ ∀ i (h : i + 1 < c.length), c[i].natAbs < c[i + 1].natAbs := by
  unfold clauseB inB cOkTo at h
  simp only [Bool.and_eq_true, decide_eq_true_eq, List.all_eq_true, List.mem_range] at h
  obtain ⟨hv, hc⟩ := h
  have hlit : ∀ i (hi : i < c.length), litB vars c[i] = true := fun i hi => by
    have := hc i hi
    unfold cOk at this
    rw [Bool.and_eq_true, List.getD_eq_getElem?_getD, List.getElem?_eq_getElem hi] at this
    exact this.1
  refine ⟨hv, fun l hl => ?_, fun i hi => ?_⟩
  · obtain ⟨i, hi, rfl⟩ := List.getElem_of_mem hl
    exact lit_small hv (hlit i hi)
  · have h1 := hc (i + 1) hi
    unfold cOk at h1
    rw [Bool.and_eq_true, Bool.or_eq_true] at h1
    have h2 := h1.2
    simp only [beq_iff_eq, Nat.add_eq_zero_iff, Nat.succ_ne_self, and_false, false_or, decide_eq_true_eq, Nat.add_sub_cancel, reduceCtorEq, Nat.one_ne_zero] at h2
    rw [List.getD_eq_getElem?_getD, List.getD_eq_getElem?_getD, List.getElem?_eq_getElem hi, List.getElem?_eq_getElem (by omega)] at h2
    simp only [Option.getD_some] at h2
    have a1 := lit_small hv (hlit i (by omega))
    have a2 := lit_small hv (hlit (i + 1) hi)
    rw [absV_lit ⟨a1.1, by omega, by omega⟩, absV_lit ⟨a2.1, by omega, by omega⟩] at h2
    omega
theorem clause_rising {vars : Int} {c : List Int} (h : clauseB vars c = true) : c.Pairwise (fun a b => a.natAbs < b.natAbs) := by
  have h3 := (clause_parts h).2.2
  clear h
  induction c with
  | nil => exact .nil
  | cons a c ih =>
    have hc := ih (fun i hi => by have := h3 (i + 1) (by simp; omega); simpa using this)
    refine List.pairwise_cons.2 ⟨fun b hb => ?_, hc⟩
    cases c with
    | nil => simp at hb
    | cons d c =>
      have h0 := h3 0 (by simp)
      simp only [List.getElem_cons_zero, List.getElem_cons_succ] at h0
      rcases List.mem_cons.1 hb with rfl | hb
      · exact h0
      · exact Nat.lt_trans h0 ((List.pairwise_cons.1 hc).1 b hb)
theorem rising_len {m : Nat} : ∀ {c : List Int} {k : Nat}, c.Pairwise (fun a b => a.natAbs < b.natAbs) → (∀ l ∈ c, k ≤ l.natAbs ∧ l.natAbs < k + m) → c.length ≤ m
  | [], _, _, _ => by simp
  | a :: c, k, hp, hb => by
    have ha := hb a (by simp)
    have hp' := List.pairwise_cons.1 hp
    have := rising_len (m := m - (a.natAbs - k) - 1) (k := a.natAbs + 1) hp'.2 (fun l hl => by have := hp'.1 l hl; have := hb l (by simp [hl]); omega)
    simp only [List.length_cons]
    omega
theorem clause_s {vars : Int} {c : List Int} (h : clauseB vars c = true) : ClS c := by
  have hp := clause_parts h
  refine ⟨fun l hl => ?_, ?_⟩
  · have := hp.2.1 l hl
    exact ⟨this.1, by omega, by omega⟩
  · have := rising_len (m := 12) (k := 1) (clause_rising h) (fun l hl => by have := hp.2.1 l hl; omega)
    omega
theorem good_cnf {vars : Int} {xss : List (List Int)} (h : goodB vars xss = true) : (0 ≤ vars ∧ vars ≤ 12) ∧ xss.length ≤ 60 ∧ (∀ c ∈ xss, clauseB vars c = true) ∧ ∀ c ∈ xss, ClS c := by
  unfold goodB inB at h
  simp only [Bool.and_eq_true, decide_eq_true_eq, List.all_eq_true] at h
  exact ⟨h.1.1, h.1.2, h.2, fun c hc => clause_s (h.2 c hc)⟩

/- left out: the seat has no impl.satisfiable -/

/- left out: the seat has no impl.IsSatisfiable -/
end Go.Proofs.Ytcdgpekefiplnaa
