/- Plain facts: books of records. No program in sight. -/
import Derived.Test.YtcapiijpfoapkaaDoorPlA
namespace Go.Proofs.YtcapiijpfoapkaaDoor

/-- A record: name, system, size, extra. -/
structure Rec where
  name : List UInt8
  sys : Int
  size : Int
  extra : Int
  deriving DecidableEq

def nameC (c : UInt8) : Bool := inB c.toNat 97 122 || inB c.toNat 48 57
def nameB (l : List UInt8) : Bool := inB l.length 1 12 && l.all nameC
/-- A valid record. -/
def recB (r : Rec) : Bool := nameB r.name && inB r.sys 1 4 && inB r.size 1 9999 && inB r.extra 0 9999

theorem less_irrefl : ∀ a : List UInt8, Op.bytesLess a a = false
  | [] => rfl
  | c :: a => by
    simp only [Op.bytesLess, beq_self_eq_true, Bool.true_and, less_irrefl a, Bool.or_false, decide_eq_false_iff_not]
    rw [UInt8.lt_iff_toNat_lt]; omega
theorem less_trans : ∀ {a b c : List UInt8}, Op.bytesLess a b = true → Op.bytesLess b c = true → Op.bytesLess a c = true
  | _, [], _, h, _ => by cases ‹List UInt8› <;> simp [Op.bytesLess] at h
  | _, _ :: _, [], _, h => by simp [Op.bytesLess] at h
  | [], _ :: _, _ :: _, _, _ => rfl
  | x :: a, y :: b, z :: c, h, k => by
    simp only [Op.bytesLess, Bool.or_eq_true, decide_eq_true_eq, Bool.and_eq_true, beq_iff_eq, UInt8.lt_iff_toNat_lt] at h k ⊢
    rcases h with h | ⟨rfl, h⟩
    · rcases k with k | ⟨rfl, k⟩
      · left; omega
      · left; exact h
    · rcases k with k | ⟨rfl, k⟩
      · left; exact k
      · right; exact ⟨rfl, less_trans h k⟩
theorem less_total : ∀ {a b : List UInt8}, Op.bytesLess a b = false → a ≠ b → Op.bytesLess b a = true
  | [], [], _, h => absurd rfl h
  | [], _ :: _, h, _ => by simp [Op.bytesLess] at h
  | _ :: _, [], _, _ => rfl
  | x :: a, y :: b, h, hne => by
    simp only [Op.bytesLess, Bool.or_eq_false_iff, decide_eq_false_iff_not, Bool.and_eq_false_iff, beq_eq_false_iff_ne, UInt8.lt_iff_toNat_lt] at h
    simp only [Op.bytesLess, Bool.or_eq_true, decide_eq_true_eq, Bool.and_eq_true, beq_iff_eq, UInt8.lt_iff_toNat_lt]
    by_cases e : x = y
    · subst e
      right
      rcases h.2 with h2 | h2
      · exact absurd rfl h2
      · exact ⟨rfl, less_total h2 (fun e => hne (by rw [e]))⟩
    · left
      have : x.toNat ≠ y.toNat := fun h => e (UInt8.toNat_inj.1 h)
      omega
theorem less_asym {a b : List UInt8} (h : Op.bytesLess a b = true) : Op.bytesLess b a = false := by
  cases e : Op.bytesLess b a with
  | false => rfl
  | true => have := less_trans h e; rw [less_irrefl] at this; cases this

/-- A record is before another one. -/
def beforeB (a b : Rec) : Bool := Op.bytesLess a.name b.name || (a.name == b.name && decide (a.sys < b.sys))
theorem before_trans {a b c : Rec} (h : beforeB a b = true) (k : beforeB b c = true) : beforeB a c = true := by
  simp only [beforeB, Bool.or_eq_true, Bool.and_eq_true, beq_iff_eq, decide_eq_true_eq] at *
  rcases h with h | ⟨h1, h2⟩
  · rcases k with k | ⟨k1, k2⟩
    · exact .inl (less_trans h k)
    · left; rw [← k1]; exact h
  · rcases k with k | ⟨k1, k2⟩
    · left; rw [h1]; exact k
    · right; exact ⟨h1.trans k1, by omega⟩
/-- Place i of a book is as it must be. -/
def bkOk (xs : List Rec) (i : Nat) : Bool :=
  match xs[i]?, (if i = 0 then none else xs[i - 1]?) with
  | some r, none => recB r
  | some r, some q => recB r && beforeB q r
  | none, _ => false
def bkOkTo (xs : List Rec) (k : Nat) : Bool := (List.range k).all (bkOk xs)
theorem bkOkTo_succ (xs : List Rec) (k : Nat) : bkOkTo xs (k + 1) = (bkOkTo xs k && bkOk xs k) := by simp [bkOkTo, List.range_succ]
/-- A book. -/
def bookB (xs : List Rec) : Bool := bkOkTo xs xs.length && decide (xs.length ≤ 24)
theorem bkOkTo_le {xs : List Rec} {k : Nat} (hk : k ≤ xs.length) (h : bkOkTo xs k = false) : bkOkTo xs xs.length = false := by
  obtain ⟨d, hd⟩ : ∃ d, xs.length = k + d := ⟨xs.length - k, by omega⟩
  rw [hd]
  clear hd hk
  induction d with
  | zero => exact h
  | succ d ih => rw [← Nat.add_assoc, bkOkTo_succ, ih]; rfl
theorem bkOk_zero (xs : List Rec) (h : 0 < xs.length) : bkOk xs 0 = recB xs[0] := by
  unfold bkOk
  rw [List.getElem?_eq_getElem h, if_pos rfl]
theorem bkOk_succ (xs : List Rec) (k : Nat) (h : k + 1 < xs.length) : bkOk xs (k + 1) = (recB xs[k + 1] && beforeB (xs[k]'(by omega)) xs[k + 1]) := by
  unfold bkOk
  rw [List.getElem?_eq_getElem h, if_neg (by omega), Nat.add_sub_cancel, List.getElem?_eq_getElem (show k < xs.length by omega)]
theorem book_at {xs : List Rec} (h : bookB xs = true) (k : Nat) (hk : k < xs.length) : bkOk xs k = true := by
  unfold bookB bkOkTo at h
  rw [Bool.and_eq_true, List.all_eq_true] at h
  exact h.1 k (List.mem_range.2 hk)
theorem book_rec {xs : List Rec} (h : bookB xs = true) (k : Nat) (hk : k < xs.length) : recB xs[k] = true := by
  have := book_at h k hk
  cases k with
  | zero => rwa [bkOk_zero xs hk] at this
  | succ k => rw [bkOk_succ xs k hk, Bool.and_eq_true] at this; exact this.1
theorem book_rising {xs : List Rec} (h : bookB xs = true) : ∀ (i j : Nat) (hj : j < xs.length) (hij : i < j), beforeB (xs[i]'(by omega)) xs[j] = true
  | i, j + 1, hj, hij => by
    have h1 := book_at h (j + 1) hj
    rw [bkOk_succ xs j hj, Bool.and_eq_true] at h1
    rcases Nat.lt_or_ge i j with h2 | h2
    · exact before_trans (book_rising h i j (by omega) h2) h1.2
    · obtain rfl : i = j := by omega
      exact h1.2
end Go.Proofs.YtcapiijpfoapkaaDoor
