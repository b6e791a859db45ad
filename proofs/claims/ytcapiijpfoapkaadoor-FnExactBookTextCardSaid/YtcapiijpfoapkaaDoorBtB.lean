/- Plain facts: the text of a book. No program in sight. -/
import Derived.Test.YtcapiijpfoapkaaDoorBookB
import Derived.Test.YtcapiijpfoapkaaDoorPlC
namespace Go.Proofs.YtcapiijpfoapkaaDoor

/-- The letter of a system. -/
def letB (s : Int) : List UInt8 := [if s = 1 then 114 else if s = 2 then 116 else if s = 3 then 108 else 112]
/-- The line of a record. -/
def recT (r : Rec) : List UInt8 := r.name ++ [32] ++ letB r.sys ++ [32] ++ Lib.itoa r.size ++ [32] ++ Lib.itoa r.extra ++ [10]
def textB (xs : List Rec) : List UInt8 := xs.flatMap recT
theorem letter {s : Int} (h1 : 1 ≤ s) (h4 : s ≤ 4) : (ByteArray.mk #[114, 116, 108, 112]).extract (s - 1).toNat s.toNat = ms (letB s) := by
  obtain rfl | rfl | rfl | rfl : s = 1 ∨ s = 2 ∨ s = 3 ∨ s = 4 := by omega
  all_goals rfl
theorem textB_succ {xs : List Rec} {k : Nat} (hk : k < xs.length) : textB (xs.take (k + 1)) = textB (xs.take k) ++ recT xs[k] := by
  unfold textB
  rw [List.take_succ_eq_append_getElem hk, List.flatMap_append]; simp
theorem inB_iff {x a b : Int} : inB x a b = true ↔ a ≤ x ∧ x ≤ b := by simp [inB]
theorem rec_parts {r : Rec} (h : recB r = true) : (1 ≤ r.name.length ∧ r.name.length ≤ 12) ∧ r.name.all nameC = true ∧ (1 ≤ r.sys ∧ r.sys ≤ 4) ∧ (1 ≤ r.size ∧ r.size ≤ 9999) ∧ (0 ≤ r.extra ∧ r.extra ≤ 9999) := by
  simp only [recB, nameB, Bool.and_eq_true, inB_iff] at h
  obtain ⟨⟨⟨⟨⟨a, b⟩, c⟩, d⟩, e⟩, f⟩ := h
  exact ⟨⟨by omega, by omega⟩, c, d, e, f⟩
theorem itoa_four {n : Int} (h0 : 0 ≤ n) (h1 : n ≤ 9999) : (Lib.itoa n).length ≤ 5 := by
  rw [Lib.itoa, if_neg (by omega)]; exact decDigits_len 4 _ (by omega)
theorem recT_len {r : Rec} (h : recB r = true) : (recT r).length ≤ 40 := by
  obtain ⟨h1, _, _, h3, h4⟩ := rec_parts h
  have e1 := itoa_four (n := r.size) (by omega) (by omega)
  have e2 := itoa_four h4.1 h4.2
  simp [recT, letB]; omega
theorem textB_len {xs : List Rec} (h : ∀ r ∈ xs, recB r = true) : (textB xs).length ≤ 40 * xs.length := by
  induction xs with
  | nil => simp [textB]
  | cons r xs ih =>
    have h1 := recT_len (h r (by simp))
    have h2 := ih fun r hr => h r (by simp [hr])
    unfold textB at h2 ⊢
    simp only [List.flatMap_cons, List.length_append, List.length_cons]; omega
theorem book_all {xs : List Rec} (h : bookB xs = true) : ∀ r ∈ xs, recB r = true := by
  intro r hr
  obtain ⟨i, hi, rfl⟩ := List.getElem_of_mem hr
  exact book_rec h i hi
theorem book_le {xs : List Rec} (h : bookB xs = true) : xs.length ≤ 24 := by
  unfold bookB at h
  rw [Bool.and_eq_true, decide_eq_true_eq] at h
  exact h.2
theorem take_len {xs : List Rec} (h : bookB xs = true) {k : Nat} (hk : k ≤ xs.length) : (textB (xs.take k)).length ≤ 960 := by
  have h1 := textB_len (xs := xs.take k) fun r hr => book_all h r (List.mem_of_mem_take hr)
  have h2 := book_le h
  rw [List.length_take] at h1
  omega
end Go.Proofs.YtcapiijpfoapkaaDoor
