/- Plain facts: a string split at a byte and joined again. No program in sight. -/
import Derived.Test.YtfcekfomhpmgpaaDoorPlC
import Derived.Lib.SplitLaws
import Derived.Lib.Join
namespace Go.Proofs.YtfcekfomhpmgpaaDoor

theorem eqB_self (c : UInt8) : eqB c c.toNat = true := by rw [eqB_of]; simp
theorem eqB_inj {c d : UInt8} (h : eqB d c.toNat = true) : d = c := by rw [eqB_of] at h; simpa using h
theorem count_none {c : UInt8} : ∀ {l : List UInt8}, hasB l c.toNat = false → l.count c = 0
  | [], _ => rfl
  | d :: l, h => by
    rw [hasB_cons] at h
    have h1 : eqB d c.toNat = false := by cases e : eqB d c.toNat <;> simp_all
    have h2 : hasB l c.toNat = false := by cases e : hasB l c.toNat <;> simp_all
    rw [eqB_of] at h1
    rw [List.count_cons, count_none h2, h1]
    rfl
theorem splitK_one (c : UInt8) : ∀ (n : Nat) (l : List UInt8), l.length ≤ n → Lib.splitK [c] 0 (Lib.count l [c]) l = splitP c.toNat l := by
  intro n
  induction n with
  | zero =>
    intro l hl
    obtain rfl : l = [] := List.length_eq_zero_iff.1 (by omega)
    rw [Lib.count_one]; rfl
  | succ n ih =>
    intro l hl
    rcases cut_cases c.toNat l with h | ⟨x, d, y, rfl, h1, h2⟩
    · rw [Lib.count_one, count_none h, splitP_none h]; rfl
    · obtain rfl : d = c := eqB_inj h2
      have hc : Lib.count (x ++ d :: y) [d] = Lib.count y [d] + 1 := by
        rw [Lib.count_one, Lib.count_one, List.count_append, count_none h1, List.count_cons_self]; omega
      have hi : Lib.index (x ++ d :: y) [d] = x.length := by rw [Lib.index_one, index_some h1]
      rw [hc, splitP_some h1 h2, Lib.splitK, hi, if_neg (by rw [beq_iff_eq]; omega)]
      have ht : (x ++ d :: y).take (((x.length : Nat) : Int).toNat + 0) = x := by simp
      have hd : (x ++ d :: y).drop (((x.length : Nat) : Int).toNat + [d].length) = y := by
        rw [Int.toNat_natCast, List.length_singleton, List.drop_append, List.drop_of_length_le (by omega)]
        simp [show x.length + 1 - x.length = 1 by omega]
      rw [ht, hd, ih y (by simp at hl; omega)]

theorem joinTail_cons (sep x : List UInt8) (r : List (List UInt8)) : Lib.joinTail sep (x :: r) = sep ++ x ++ Lib.joinTail sep r := by simp [Lib.joinTail]
/-- The parts joined again are the string. -/
theorem join_split (c : UInt8) : ∀ l : List UInt8, Lib.join (splitP c.toNat l) [c] = l
  | [] => by rw [splitP, Lib.join_one]
  | d :: l => by
    have ih := join_split c l
    rw [splitP]
    obtain ⟨p, ps, hp⟩ := List.exists_cons_of_ne_nil (splitP_ne c.toNat l)
    rw [hp] at ih ⊢
    rw [Lib.join_cons] at ih
    split
    · rename_i h
      obtain rfl := eqB_inj h
      rw [Lib.join_cons, joinTail_cons, List.nil_append, List.append_assoc, ih]; rfl
    · simp only
      rw [Lib.join_cons, List.cons_append, ih]
/-- No part has the byte. -/
theorem split_has (b : Int) : ∀ l : List UInt8, ∀ p ∈ splitP b l, hasB p b = false
  | [] => by simp [splitP, hasB]
  | d :: l => by
    have ih := split_has b l
    obtain ⟨p, ps, hp⟩ := List.exists_cons_of_ne_nil (splitP_ne b l)
    rw [splitP, hp]
    rw [hp] at ih
    intro q hq
    split at hq
    · rcases List.mem_cons.1 hq with rfl | hq
      · rfl
      · exact ih q hq
    · rename_i h
      simp only at hq
      rcases List.mem_cons.1 hq with rfl | hq
      · rw [hasB_cons, ih p List.mem_cons_self, Bool.or_false]
        simpa using h
      · exact ih q (List.mem_cons_of_mem _ hq)
/-- Parts may be joined: none has the byte, the whole is short. -/
def fitJ (c : UInt8) (xs : List (List UInt8)) : Bool := !(xs.any fun x => hasB x c.toNat) && decide ((Lib.join xs [c]).length ≤ 4000)
/-- What JoinStrings gives. -/
def joinB (sep : List UInt8) (xs : List (List UInt8)) : List UInt8 × Bool :=
  match sep, xs with
  | [c], x :: r => if fitJ c (x :: r) then (Lib.join (x :: r) [c], true) else ([], false)
  | _, _ => ([], false)
theorem joinB_nil (sep : List UInt8) : joinB sep [] = ([], false) := by
  unfold joinB
  split
  · rename_i h; cases h
  · rfl
theorem joinB_sep {sep : List UInt8} (h : sep.length ≠ 1) (xs : List (List UInt8)) : joinB sep xs = ([], false) := by
  unfold joinB
  split
  · exact absurd rfl h
  · rfl
theorem joinB_one {c : UInt8} {xs : List (List UInt8)} (h : xs ≠ []) : joinB [c] xs = if fitJ c xs then (Lib.join xs [c], true) else ([], false) := by
  cases xs with
  | nil => exact absurd rfl h
  | cons x r => rfl
theorem join_back {c : UInt8} {l : List UInt8} (h : l.length ≤ 4000) : joinB [c] (splitP c.toNat l) = (l, true) := by
  rw [joinB_one (splitP_ne _ _), if_pos, join_split]
  unfold fitJ
  rw [join_split, decide_eq_true h, Bool.and_true, Bool.not_eq_true']
  rw [List.any_eq_false]
  intro p hp
  rw [split_has _ _ p hp]; simp
theorem join_snoc {xs : List (List UInt8)} (h : xs ≠ []) (y sep : List UInt8) : Lib.join (xs ++ [y]) sep = Lib.join xs sep ++ sep ++ y := by
  cases xs with
  | nil => exact absurd rfl h
  | cons x r =>
    rw [List.cons_append, Lib.join_cons, Lib.join_cons]
    simp [Lib.joinTail]
theorem join_len {xs : List (List UInt8)} (h : xs ≠ []) (c : UInt8) : (Lib.join xs [c]).length + 1 = xs.length + Lib.lens xs := by
  cases xs with
  | nil => exact absurd rfl h
  | cons x r => rw [Lib.join_length]; simp; omega
theorem join_take_le (c : UInt8) (xs : List (List UInt8)) (k : Nat) (hk : 0 < k) : (Lib.join (xs.take k) [c]).length ≤ (Lib.join xs [c]).length := by
  cases xs with
  | nil => simp
  | cons x r =>
    obtain ⟨j, rfl⟩ : ∃ j, k = j + 1 := ⟨k - 1, by omega⟩
    rw [List.take_succ_cons, Lib.join_cons, Lib.join_cons, List.length_append, List.length_append]
    have := Lib.joinTail_take_le [c] r j
    omega
theorem fit_no_has {c : UInt8} {xs : List (List UInt8)} {k : Nat} (hk : k < xs.length) (h : hasB xs[k] c.toNat = true) : fitJ c xs = false := by
  unfold fitJ
  have : (xs.any fun x => hasB x c.toNat) = true := List.any_eq_true.2 ⟨_, List.getElem_mem hk, h⟩
  rw [this]; rfl
theorem fit_no_len {c : UInt8} {xs : List (List UInt8)} {k : Nat} (hk : 0 < k) (h : 4000 < (Lib.join (xs.take k) [c]).length) : fitJ c xs = false := by
  unfold fitJ
  have := join_take_le c xs k hk
  rw [decide_eq_false (by omega), Bool.and_false]
theorem fit_yes {c : UInt8} {xs : List (List UInt8)} (h1 : (xs.any fun x => hasB x c.toNat) = false) (h2 : (Lib.join xs [c]).length ≤ 4000) : fitJ c xs = true := by
  unfold fitJ
  rw [h1, decide_eq_true h2]; rfl
theorem any_snoc {c : UInt8} {xs : List (List UInt8)} {k : Nat} (hk : k < xs.length) (h : ((xs.take k).any fun x => hasB x c.toNat) = false) (h1 : hasB xs[k] c.toNat = false) : ((xs.take (k + 1)).any fun x => hasB x c.toNat) = false := by
  rw [List.take_succ_eq_append_getElem hk, List.any_append, h]
  simp [h1]
end Go.Proofs.YtfcekfomhpmgpaaDoor
