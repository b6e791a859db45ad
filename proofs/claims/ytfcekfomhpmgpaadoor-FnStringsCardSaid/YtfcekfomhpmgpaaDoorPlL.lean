/- Plain facts: reading logs, by the reference and by the program. No program in sight. -/
import Derived.Test.YtfcekfomhpmgpaaDoorPlC
namespace Go.Proofs.YtfcekfomhpmgpaaDoor

/-- What 'l33Read' gives: the record, and whether the line is its encoding. -/
def readB (l : List UInt8) (k : Int) : (List UInt8 × List UInt8) × Bool :=
  let ahead := Lib.itoa k ++ [32]
  let text := (cutP 35 l).1
  if text.length < ahead.length ∨ text.take ahead.length ≠ ahead then (([], []), false)
  else
    let rest := text.drop ahead.length
    let ask := (cutP 64 rest).1
    if ask.length = rest.length then (([], []), false)
    else ((ask, rest.drop (ask.length + 1)), goodB ask (rest.drop (ask.length + 1)) && lineB k ask (rest.drop (ask.length + 1)) == l ++ [10])

theorem readB_sound {l : List UInt8} {k : Int} (h : (readB l k).2 = true) : goodB (readB l k).1.1 (readB l k).1.2 = true ∧ lineB k (readB l k).1.1 (readB l k).1.2 = l ++ [10] := by
  unfold readB at *
  simp only at *
  split at h
  · cases h
  · rename_i h1
    rw [if_neg h1]
    split at h
    · cases h
    · rename_i h2
      rw [if_neg h2]
      simp only [Bool.and_eq_true, beq_iff_eq] at h
      exact h

theorem digits_no (n u : Nat) (h : u ≤ n) : hasB (Lib.decDigits u) 32 = false := by
  simp only [hasB, List.any_eq_false]
  intro c hc
  have := decDigits_digit n u h c hc
  simp; omega
theorem itoa_no {k : Int} (h : 0 ≤ k) : hasB (Lib.itoa k) 32 = false := by
  rw [Lib.itoa, if_neg (by omega)]; exact digits_no _ _ (Nat.le_refl _)

/-- The text ahead of the checksum. -/
def textB (k : Int) (c r : List UInt8) : List UInt8 := Lib.itoa k ++ 32 :: (c ++ 64 :: r)
theorem line_text {k : Int} {c r l : List UInt8} (h : lineB k c r = l ++ [10]) : l = textB k c r ++ 35 :: Lib.itoa (sumB (textB k c r)) :=
  (List.append_cancel_right h).symm
theorem text_no {k : Int} {c r : List UInt8} (h0 : 0 ≤ k) (h : goodB c r = true) : hasB (textB k c r) 35 = false := by
  obtain ⟨_, g1, _, _, g4, _⟩ := goodB_facts h
  unfold textB
  rw [hasB_append, hasB_cons, hasB_append, hasB_cons, allB_has (itoa_all h0), allB_has g1, allB_has g4]; rfl
theorem line_cut {k : Int} {c r l : List UInt8} (h0 : 0 ≤ k) (h : goodB c r = true) (hl : lineB k c r = l ++ [10]) : (cutP 35 l).1 = textB k c r := by
  rw [line_text hl, cutP_some (text_no h0 h) (by rfl)]
theorem text_rest (k : Int) (c r : List UInt8) : (textB k c r).drop (Lib.itoa k ++ [32]).length = c ++ 64 :: r := by
  unfold textB
  rw [show Lib.itoa k ++ 32 :: (c ++ 64 :: r) = (Lib.itoa k ++ [32]) ++ (c ++ 64 :: r) by simp, List.drop_left]
theorem text_take (k : Int) (c r : List UInt8) : (textB k c r).take (Lib.itoa k ++ [32]).length = Lib.itoa k ++ [32] := by
  unfold textB
  rw [show Lib.itoa k ++ 32 :: (c ++ 64 :: r) = (Lib.itoa k ++ [32]) ++ (c ++ 64 :: r) by simp, List.take_left]

theorem readB_complete {k : Int} {c r l : List UInt8} (h0 : 0 ≤ k) (h : goodB c r = true) (hl : lineB k c r = l ++ [10]) : readB l k = ((c, r), true) := by
  have hg := goodB_facts h
  have e1 := line_cut h0 h hl
  have e2 := text_rest k c r
  have e3 := text_take k c r
  have e4 : (cutP 64 (c ++ 64 :: r)).1 = c := by rw [cutP_some hg.2.2.2.1 (by rfl)]
  unfold readB
  simp only [e1, e2, e3, e4]
  rw [if_neg (by
    intro hh
    rcases hh with hh | hh
    · have : (textB k c r).length = (Lib.itoa k ++ [32]).length + (c ++ 64 :: r).length := by unfold textB; simp; omega
      omega
    · exact hh rfl), if_neg (by simp)]
  have e5 : (c ++ 64 :: r).drop (c.length + 1) = r := by
    rw [show c ++ 64 :: r = (c ++ [64]) ++ r by simp]
    exact List.drop_left' (by simp)
  rw [e5, h, hl]
  simp

/-- One record off the head: its data and what is left. -/
def stB (l : List UInt8) (k : Int) : Option ((List UInt8 × List UInt8) × List UInt8) :=
  if (cutP 10 l).2.2 && inB k 0 59 && (readB (cutP 10 l).1 k).2 then some ((readB (cutP 10 l).1 k).1, (cutP 10 l).2.1) else none

/-- What the program's reader takes for the command and the reply. -/
def cmdB (l : List UInt8) : List UInt8 := (cutP 64 (cutP 32 (verB (cutP 10 l).1).1).2.1).1
def repB (l : List UInt8) : List UInt8 := (cutP 64 (cutP 32 (verB (cutP 10 l).1).1).2.1).2.1
/-- Whether the program's reader takes a record. -/
def nextB (l : List UInt8) (k : Int) : Bool :=
  (cutP 10 l).2.2 && (verB (cutP 10 l).1).2 && (encB k (cmdB l) (repB l)).2 && ((encB k (cmdB l) (repB l)).1 == (cutP 10 l).1 ++ [10])

theorem ver_line {k : Int} {c r l : List UInt8} (h0 : 0 ≤ k) (h1 : k ≤ 59) (h : goodB c r = true) (hl : lineB k c r = l ++ [10]) : verB l = (textB k c r, true) := by
  unfold verB
  rw [line_cut h0 h hl]
  have ha : appB (textB k c r) = (sealB (textB k c r), true) := appB_good h0 h1 h
  rw [ha]
  have e : sealB (textB k c r) = l := (line_text hl).symm
  rw [e]; simp
theorem nextB_yes {k : Int} {l : List UInt8} (hk : 0 ≤ k) (h : nextB l k = true) : stB l k = some ((cmdB l, repB l), (cutP 10 l).2.1) := by
  unfold nextB at h
  simp only [Bool.and_eq_true, beq_iff_eq] at h
  obtain ⟨⟨⟨h1, h2⟩, h3⟩, h4⟩ := h
  unfold encB at h3 h4
  by_cases hg : inB k 0 59 && goodB (cmdB l) (repB l)
  · rw [if_pos hg] at h4
    simp only [Bool.and_eq_true] at hg
    have hr := readB_complete hk hg.2 h4
    unfold stB
    rw [hr, h1, hg.1]; rfl
  · rw [if_neg hg] at h3; cases h3
theorem nextB_no {k : Int} {l : List UInt8} (h : nextB l k = false) : stB l k = none := by
  unfold stB
  by_cases hc : (cutP 10 l).2.2 && inB k 0 59 && (readB (cutP 10 l).1 k).2
  · exfalso
    simp only [Bool.and_eq_true] at hc
    obtain ⟨⟨h1, h2⟩, h3⟩ := hc
    obtain ⟨g, hl⟩ := readB_sound h3
    have hk := inB_true.1 h2
    generalize (readB (cutP 10 l).1 k).1.1 = c at *
    generalize (readB (cutP 10 l).1 k).1.2 = r at *
    have hv := ver_line hk.1 hk.2 g hl
    have hg := goodB_facts g
    have e1 : (cutP 32 (textB k c r)).2.1 = c ++ 64 :: r := by
      unfold textB; rw [cutP_some (itoa_no hk.1) (by rfl)]
    have e2 : cmdB l = c := by unfold cmdB; rw [hv, e1, cutP_some hg.2.2.2.1 (by rfl)]
    have e3 : repB l = r := by unfold repB; rw [hv, e1, cutP_some hg.2.2.2.1 (by rfl)]
    have e4 : encB k c r = (lineB k c r, true) := by unfold encB; rw [h2, g]; rfl
    unfold nextB at h
    rw [e2, e3, e4, hv, h1, hl] at h
    simp at h
  · rw [if_neg hc]

theorem cut_shape (b : Int) (l : List UInt8) (h : (cutP b l).2.2 = true) : ∃ c, eqB c b = true ∧ l = (cutP b l).1 ++ c :: (cutP b l).2.1 ∧ hasB (cutP b l).1 b = false := by
  rcases cut_cases b l with h1 | ⟨x, c, y, rfl, h1, h2⟩
  · rw [cutP_none h1] at h; cases h
  · rw [cutP_some h1 h2]; exact ⟨c, h2, rfl, h1⟩
theorem eqB_ten {c : UInt8} (h : eqB c 10 = true) : c = 10 := by
  unfold eqB at h
  apply UInt8.toNat_inj.1
  have : (c.toNat : Int) = 10 := by simpa using h
  show c.toNat = 10
  omega
theorem stB_facts {l : List UInt8} {k : Int} {e : List UInt8 × List UInt8} {rest : List UInt8} (h : stB l k = some (e, rest)) :
    0 ≤ k ∧ k ≤ 59 ∧ goodB e.1 e.2 = true ∧ l = lineB k e.1 e.2 ++ rest ∧ (cutP 10 l).2.2 = true ∧ e = (readB (cutP 10 l).1 k).1 ∧ rest = (cutP 10 l).2.1 ∧ (readB (cutP 10 l).1 k).2 = true := by
  unfold stB at h
  by_cases hc : (cutP 10 l).2.2 && inB k 0 59 && (readB (cutP 10 l).1 k).2
  · rw [if_pos hc] at h
    simp only [Option.some.injEq, Prod.mk.injEq] at h
    obtain ⟨rfl, rfl⟩ := h
    simp only [Bool.and_eq_true] at hc
    obtain ⟨⟨h1, h2⟩, h3⟩ := hc
    obtain ⟨g, hl⟩ := readB_sound h3
    have hk := inB_true.1 h2
    obtain ⟨c, h4, h5, _⟩ := cut_shape 10 l h1
    rw [eqB_ten h4] at h5
    refine ⟨hk.1, hk.2, g, ?_, h1, rfl, rfl, h3⟩
    rw [hl, List.append_assoc]; exact h5
  · rw [if_neg hc] at h; cases h
theorem lineB_len {k : Int} {c r : List UInt8} (h0 : 0 ≤ k) (h1 : k ≤ 59) (h : goodB c r = true) : (lineB k c r).length ≤ 400 ∧ 0 < (lineB k c r).length := by
  obtain ⟨_, _, g2, _, _, g5⟩ := goodB_facts h
  have hk := itoa_len h0 (by omega)
  have hs := sealB_length (Lib.itoa k ++ 32 :: (c ++ 64 :: r))
  unfold lineB
  simp at *
  omega

/-- The records at the head of a log, from the record with number 60 - n on, and what is left. -/
def openB : Nat → List UInt8 → List (List UInt8 × List UInt8) × List UInt8
  | 0, l => ([], l)
  | n + 1, l => match stB l (60 - (n + 1 : Nat)) with
    | none => ([], l)
    | some (e, rest) => (e :: (openB n rest).1, (openB n rest).2)
theorem openB_none {n : Nat} {l : List UInt8} (h : stB l (60 - (n + 1 : Nat)) = none) : openB (n + 1) l = ([], l) := by
  rw [openB, h]
theorem openB_some {n : Nat} {l : List UInt8} {e rest} (h : stB l (60 - (n + 1 : Nat)) = some (e, rest)) : openB (n + 1) l = (e :: (openB n rest).1, (openB n rest).2) := by
  rw [openB, h]
theorem openB_len : ∀ (n : Nat) (l : List UInt8), (openB n l).1.length ≤ n ∧ l.length ≤ 400 * (openB n l).1.length + (openB n l).2.length ∧ (openB n l).2.length ≤ l.length
  | 0, l => by simp [openB]
  | n + 1, l => by
    cases h : stB l (60 - (n + 1 : Nat)) with
    | none => rw [openB_none h]; simp
    | some x =>
      obtain ⟨e, rest⟩ := x
      obtain ⟨h0, h1, g, hl, _⟩ := stB_facts h
      have := openB_len n rest
      have hz := lineB_len h0 h1 g
      rw [openB_some h]
      have e1 : l.length = (lineB (60 - (n + 1 : Nat)) e.1 e.2).length + rest.length := by conv => lhs; rw [hl, List.length_append]
      simp only [List.length_cons]
      omega
theorem openB_split : ∀ (n : Nat) (l : List UInt8), (openB n l).2 = l.drop (l.length - (openB n l).2.length)
  | 0, l => by simp [openB]
  | n + 1, l => by
    cases h : stB l (60 - (n + 1 : Nat)) with
    | none => rw [openB_none h]; simp
    | some x =>
      obtain ⟨e, rest⟩ := x
      obtain ⟨h0, h1, g, hl, _⟩ := stB_facts h
      have h3 := openB_split n rest
      have h4 := (openB_len n rest).2.2
      rw [openB_some h]
      simp only
      have e1 : l.length = (lineB (60 - (n + 1 : Nat)) e.1 e.2).length + rest.length := by conv => lhs; rw [hl, List.length_append]
      have e2 : l.drop (lineB (60 - (n + 1 : Nat)) e.1 e.2).length = rest := by
        conv => lhs; rw [hl]
        exact List.drop_left
      conv => lhs; rw [h3]
      rw [show l.length - (openB n rest).2.length = (lineB (60 - (n + 1 : Nat)) e.1 e.2).length + (rest.length - (openB n rest).2.length) by omega, ← List.drop_drop, e2]
end Go.Proofs.YtfcekfomhpmgpaaDoor
