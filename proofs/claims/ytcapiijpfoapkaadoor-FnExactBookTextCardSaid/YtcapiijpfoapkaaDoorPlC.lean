/- Plain facts: cutting and splitting at a byte; sealed strings read back. No program in sight. -/
import Derived.Test.YtcapiijpfoapkaaDoorPlB
import Derived.Lib.IndexBytes
import Derived.Lib.IndexLaws
import Derived.Lib.IndexMore
namespace Go.Proofs.YtcapiijpfoapkaaDoor

def eqB (c : UInt8) (b : Int) : Bool := (c.toNat : Int) == b
theorem eqB_of (c b : UInt8) : eqB c b.toNat = (c == b) := by
  unfold eqB
  rw [Bool.eq_iff_iff]
  simp only [beq_iff_eq]
  constructor
  · intro h; exact UInt8.toNat_inj.1 (by omega)
  · rintro rfl; rfl
theorem hasB_cons (c : UInt8) (l : List UInt8) (b : Int) : hasB (c :: l) b = (eqB c b || hasB l b) := rfl
theorem hasB_append (l m : List UInt8) (b : Int) : hasB (l ++ m) b = (hasB l b || hasB m b) := by simp [hasB]

/-- A string cut at the first byte b. -/
def cutP (b : Int) : List UInt8 → List UInt8 × List UInt8 × Bool
  | [] => ([], [], false)
  | c :: l => if eqB c b then ([], l, true) else (c :: (cutP b l).1, (cutP b l).2.1, (cutP b l).2.2)
theorem cutP_none {b : Int} : ∀ {l : List UInt8}, hasB l b = false → cutP b l = (l, [], false)
  | [], _ => rfl
  | c :: l, h => by
    rw [hasB_cons] at h
    have h1 : eqB c b = false := by cases e : eqB c b <;> simp_all
    have h2 : hasB l b = false := by cases e : hasB l b <;> simp_all
    rw [cutP, h1, cutP_none h2]; rfl
theorem cutP_some {b : Int} : ∀ {l : List UInt8} {c : UInt8} {m : List UInt8}, hasB l b = false → eqB c b = true → cutP b (l ++ c :: m) = (l, m, true)
  | [], c, m, _, h => by rw [List.nil_append, cutP, h]; rfl
  | x :: l, c, m, h, h' => by
    rw [hasB_cons] at h
    have h1 : eqB x b = false := by cases e : eqB x b <;> simp_all
    have h2 : hasB l b = false := by cases e : hasB l b <;> simp_all
    rw [List.cons_append, cutP, h1, cutP_some h2 h']; rfl
/-- Every string has the byte not at all, or a first time. -/
theorem cut_cases (b : Int) : ∀ l : List UInt8, hasB l b = false ∨ ∃ x c y, l = x ++ c :: y ∧ hasB x b = false ∧ eqB c b = true
  | [] => .inl rfl
  | c :: l => by
    cases e : eqB c b with
    | true => exact .inr ⟨[], c, l, rfl, rfl, e⟩
    | false =>
      rcases cut_cases b l with h | ⟨x, d, y, rfl, h1, h2⟩
      · left; rw [hasB_cons, e, h]; rfl
      · exact .inr ⟨c :: x, d, y, rfl, by rw [hasB_cons, e, h1]; rfl, h2⟩
theorem index_none {b : UInt8} {l : List UInt8} (h : hasB l b.toNat = false) : Lib.indexByte l b = -1 := by
  induction l with
  | nil => rfl
  | cons c l ih =>
    rw [hasB_cons, eqB_of] at h
    have h1 : (c == b) = false := by cases e : (c == b) <;> simp_all
    have h2 : hasB l b.toNat = false := by cases e : hasB l b.toNat <;> simp_all
    rw [Lib.indexByte, if_neg (by rw [h1]; simp), ih h2, if_pos (by decide)]
theorem index_some {b : UInt8} {l m : List UInt8} (h : hasB l b.toNat = false) : Lib.indexByte (l ++ b :: m) b = l.length := by
  induction l with
  | nil => simp [Lib.indexByte]
  | cons c l ih =>
    rw [hasB_cons, eqB_of] at h
    have h1 : (c == b) = false := by cases e : (c == b) <;> simp_all
    have h2 : hasB l b.toNat = false := by cases e : hasB l b.toNat <;> simp_all
    rw [List.cons_append, Lib.indexByte, if_neg (by rw [h1]; simp), ih h2, if_neg (by rw [beq_iff_eq]; omega)]
    simp
theorem lib_cut (b : UInt8) (l : List UInt8) : Lib.cut l [b] = cutP b.toNat l := by
  unfold Lib.cut
  rw [Lib.index_one]
  rcases cut_cases b.toNat l with h | ⟨x, c, y, rfl, h1, h2⟩
  · rw [index_none h, if_neg (by decide), cutP_none h]
  · have e : c = b := by have := eqB_of c b; rw [h2] at this; simpa using this.symm
    subst e
    rw [index_some h1, if_pos (by omega), cutP_some h1 h2]
    simp
theorem lib_has (b : UInt8) (l : List UInt8) : decide (0 ≤ Lib.indexByte l b) = hasB l b.toNat := by
  rcases cut_cases b.toNat l with h | ⟨x, c, y, rfl, h1, h2⟩
  · rw [index_none h, h]; decide
  · have e : c = b := by have := eqB_of c b; rw [h2] at this; simpa using this.symm
    subst e
    rw [index_some h1, hasB_append, hasB_cons, h2]
    simp

/-- A string split at every byte b. -/
def splitP (b : Int) : List UInt8 → List (List UInt8)
  | [] => [[]]
  | c :: l => if eqB c b then [] :: splitP b l else match splitP b l with
    | p :: ps => (c :: p) :: ps
    | [] => [[c]]
theorem splitP_none {b : Int} : ∀ {l : List UInt8}, hasB l b = false → splitP b l = [l]
  | [], _ => rfl
  | c :: l, h => by
    rw [hasB_cons] at h
    have h1 : eqB c b = false := by cases e : eqB c b <;> simp_all
    have h2 : hasB l b = false := by cases e : hasB l b <;> simp_all
    rw [splitP, h1, splitP_none h2]; rfl
theorem splitP_some {b : Int} : ∀ {l : List UInt8} {c : UInt8} {m : List UInt8}, hasB l b = false → eqB c b = true → splitP b (l ++ c :: m) = l :: splitP b m
  | [], c, m, _, h => by rw [List.nil_append, splitP, h]; rfl
  | x :: l, c, m, h, h' => by
    rw [hasB_cons] at h
    have h1 : eqB x b = false := by cases e : eqB x b <;> simp_all
    have h2 : hasB l b = false := by cases e : hasB l b <;> simp_all
    rw [List.cons_append, splitP, h1, splitP_some h2 h']; rfl
theorem splitP_ne (b : Int) : ∀ l : List UInt8, splitP b l ≠ []
  | [] => by simp [splitP]
  | c :: l => by
    rw [splitP]
    split
    · simp
    · split <;> simp
theorem splitP_head (b : Int) (l : List UInt8) : ∃ ps, splitP b l = (cutP b l).1 :: ps ∧ (ps ≠ [] ↔ hasB l b = true) := by
  rcases cut_cases b l with h | ⟨x, c, y, rfl, h1, h2⟩
  · exact ⟨[], by rw [splitP_none h, cutP_none h], by rw [h]; simp⟩
  · refine ⟨splitP b y, by rw [splitP_some h1 h2, cutP_some h1 h2], ?_⟩
    rw [hasB_append, hasB_cons, h2]
    simp [splitP_ne]
theorem splitP_len (b : Int) : ∀ l : List UInt8, (splitP b l).length ≤ l.length + 1
  | [] => by simp [splitP]
  | c :: l => by
    have := splitP_len b l
    rw [splitP]
    split
    · simp; omega
    · have hn := splitP_ne b l
      split
      · rename_i p ps e; rw [e] at this; simp at *; omega
      · simp

/-- What the reference calls a good record. -/
def goodB (c r : List UInt8) : Bool := !c.isEmpty && plainB c 160 && !hasB c 64 && plainB r 200
/-- The line of a record. -/
def lineB (k : Int) (c r : List UInt8) : List UInt8 := sealB (Lib.itoa k ++ 32 :: (c ++ 64 :: r)) ++ [10]
/-- What 'EncodeRecord' gives. -/
def encB (k : Int) (c r : List UInt8) : List UInt8 × Bool := if inB k 0 59 && goodB c r then (lineB k c r, true) else ([], false)
/-- What 'AppendChecksum' gives. -/
def appB (l : List UInt8) : List UInt8 × Bool := if decide ((l.length : Int) ≤ 4000) && !hasB l 35 && decide (((sealB l).length : Int) ≤ 4000) then (sealB l, true) else ([], false)
theorem allB_has {l : List UInt8} (h : allB l = true) : hasB l 35 = false := by
  induction l with
  | nil => rfl
  | cons c l ih =>
    simp only [allB, List.all_cons, Bool.and_eq_true] at h
    rw [hasB_cons, ih h.2]
    have := h.1
    simp only [okB, Bool.and_eq_true, Bool.not_eq_true'] at this
    show (((c.toNat : Int) == 35) || false) = false
    rw [this.2]; rfl
theorem allB_append {l m : List UInt8} : allB (l ++ m) = (allB l && allB m) := by simp [allB]
theorem allB_nl {l : List UInt8} (h : allB l = true) : hasB l 10 = false := by
  induction l with
  | nil => rfl
  | cons c l ih =>
    simp only [allB, List.all_cons, Bool.and_eq_true] at h
    rw [hasB_cons, ih h.2]
    have := h.1
    simp only [okB, Bool.and_eq_true] at this
    have := inB_true.1 this.1
    unfold eqB
    simp; omega
theorem digits_all (n u : Nat) (h : u ≤ n) : allB (Lib.decDigits u) = true := by
  simp only [allB, List.all_eq_true]
  intro c hc
  have := decDigits_digit n u h c hc
  simp only [okB, Bool.and_eq_true, inB_true, Bool.not_eq_true']
  refine ⟨by omega, ?_⟩
  simp; omega
theorem itoa_all {k : Int} (h : 0 ≤ k) : allB (Lib.itoa k) = true := by
  rw [Lib.itoa, if_neg (by omega)]; exact digits_all _ _ (Nat.le_refl _)
theorem goodB_facts {c r : List UInt8} (h : goodB c r = true) : c ≠ [] ∧ allB c = true ∧ c.length ≤ 160 ∧ hasB c 64 = false ∧ allB r = true ∧ r.length ≤ 200 := by
  simp only [goodB, plainB, Bool.and_eq_true, Bool.not_eq_true', decide_eq_true_eq] at h
  obtain ⟨⟨⟨h1, h2, h3⟩, h4⟩, h5, h6⟩ := h
  exact ⟨by rintro rfl; simp at h1, h2, by omega, h4, h5, by omega⟩
theorem appB_good {k : Int} {c r : List UInt8} (h0 : 0 ≤ k) (h1 : k ≤ 59) (h : goodB c r = true) :
    appB (Lib.itoa k ++ 32 :: (c ++ 64 :: r)) = (sealB (Lib.itoa k ++ 32 :: (c ++ 64 :: r)), true) := by
  obtain ⟨_, g1, g2, _, g4, g5⟩ := goodB_facts h
  have hk := itoa_len h0 (by omega)
  have hn : (Lib.itoa k ++ 32 :: (c ++ 64 :: r)).length ≤ 368 := by simp; omega
  have hs := sealB_length (Lib.itoa k ++ 32 :: (c ++ 64 :: r))
  have hh : hasB (Lib.itoa k ++ 32 :: (c ++ 64 :: r)) 35 = false := by
    rw [hasB_append, hasB_cons, hasB_append, hasB_cons, allB_has (itoa_all h0), allB_has g1, allB_has g4]; rfl
  unfold appB
  rw [hh, decide_eq_true (by omega : (((Lib.itoa k ++ 32 :: (c ++ 64 :: r)).length : Nat) : Int) ≤ 4000), decide_eq_true (by omega : (((sealB (Lib.itoa k ++ 32 :: (c ++ 64 :: r))).length : Nat) : Int) ≤ 4000)]
  rfl

/-- What 'VerifyChecksum' gives. -/
def verB (l : List UInt8) : List UInt8 × Bool := if (appB (cutP 35 l).1).2 && (appB (cutP 35 l).1).1 == l then ((cutP 35 l).1, true) else ([], false)
end Go.Proofs.YtcapiijpfoapkaaDoor
