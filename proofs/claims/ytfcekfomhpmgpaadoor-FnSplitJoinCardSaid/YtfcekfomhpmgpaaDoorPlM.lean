/- Plain facts: logs read again, cut off, torn, appended to. No program in sight. -/
import Derived.Test.YtfcekfomhpmgpaaDoorPlL
namespace Go.Proofs.YtfcekfomhpmgpaaDoor

theorem cutP_nil (b : Int) : cutP b [] = ([], [], false) := rfl
theorem stB_nil (k : Int) : stB [] k = none := by
  unfold stB
  rw [cutP_nil]
  rfl
theorem stB_line {l : List UInt8} {k : Int} {e : List UInt8 × List UInt8} {rest : List UInt8} (h : stB l k = some (e, rest)) (r : List UInt8) : stB (lineB k e.1 e.2 ++ r) k = some (e, r) := by
  obtain ⟨h0, h1, g, hl, hc, he, hr, h3⟩ := stB_facts h
  obtain ⟨_, hline⟩ := readB_sound h3
  rw [← he] at hline
  obtain ⟨c, h4, h5, h6⟩ := cut_shape 10 l hc
  have e2 : cutP 10 (lineB k e.1 e.2 ++ r) = ((cutP 10 l).1, r, true) := by
    rw [hline, List.append_assoc]
    exact cutP_some h6 (by rfl)
  have e3 : (readB (cutP 10 l).1 k).2 = true := h3
  unfold stB
  rw [e2]
  simp only [e3, Bool.and_true, Bool.true_and]
  rw [if_pos (by exact inB_true.2 ⟨h0, h1⟩), ← he]
/-- Of what is read off, nothing depends on what stands behind. -/
theorem openB_take : ∀ (n : Nat) (l : List UInt8), openB n (l.take (l.length - (openB n l).2.length)) = ((openB n l).1, [])
  | 0, l => by simp [openB]
  | n + 1, l => by
    cases h : stB l (60 - (n + 1 : Nat)) with
    | none =>
      rw [openB_none h, Nat.sub_self, List.take_zero, openB_none (stB_nil _)]
    | some x =>
      obtain ⟨e, rest⟩ := x
      obtain ⟨h0, h1, g, hl, _⟩ := stB_facts h
      have ih := openB_take n rest
      have h4 := (openB_len n rest).2.2
      have e1 : l.length = (lineB (60 - (n + 1 : Nat)) e.1 e.2).length + rest.length := by conv => lhs; rw [hl, List.length_append]
      rw [openB_some h]
      have e2 : l.take (l.length - (openB n rest).2.length) = lineB (60 - (n + 1 : Nat)) e.1 e.2 ++ rest.take (rest.length - (openB n rest).2.length) := by
        conv => lhs; rw [hl]
        rw [List.take_append, List.take_of_length_le (by rw [← hl]; omega), ← hl]
        congr 2
        omega
      rw [e2, openB_some (stB_line h _), ih]
/-- A log that is read off whole, with more behind it. -/
theorem openB_append : ∀ (n : Nat) (x y : List UInt8), (openB n x).2 = [] → openB n (x ++ y) = ((openB n x).1 ++ (openB (n - (openB n x).1.length) y).1, (openB (n - (openB n x).1.length) y).2)
  | 0, x, y, h => by
    have hx : x = [] := h
    subst hx
    simp [openB]
  | n + 1, x, y, h => by
    cases hs : stB x (60 - (n + 1 : Nat)) with
    | none =>
      rw [openB_none hs] at h
      have hx : x = [] := h
      subst hx
      rw [openB_none hs]
      simp
    | some z =>
      obtain ⟨e, rest⟩ := z
      obtain ⟨h0, h1, g, hl, _⟩ := stB_facts hs
      rw [openB_some hs] at h
      have ih := openB_append n rest y h
      have e1 : stB (x ++ y) (60 - (n + 1 : Nat)) = some (e, rest ++ y) := by
        rw [hl, List.append_assoc]; exact stB_line hs _
      rw [openB_some hs, openB_some e1, ih]
      simp only [List.length_cons, List.cons_append]
      rw [show n + 1 - ((openB n rest).1.length + 1) = n - (openB n rest).1.length by omega]

/-- A text without a newline holds no record. -/
theorem stB_no {l : List UInt8} (h : hasB l 10 = false) (k : Int) : stB l k = none := by
  unfold stB
  rw [cutP_none h]
  rfl
theorem openB_no {l : List UInt8} (h : hasB l 10 = false) : ∀ n, (openB n l).1 = []
  | 0 => rfl
  | n + 1 => by rw [openB_none (stB_no h _)]
theorem hasB_take {l : List UInt8} {b : Int} (h : hasB l b = false) (n : Nat) : hasB (l.take n) b = false := by
  cases e : hasB (l.take n) b with
  | false => rfl
  | true => rw [hasB_true_of_take e] at h; cases h
/-- The line of a record: text, then a newline. -/
theorem line_shape {k : Int} {e : List UInt8 × List UInt8} (h0 : 0 ≤ k) (g : goodB e.1 e.2 = true) : ∃ b, lineB k e.1 e.2 = b ++ [10] ∧ hasB b 10 = false ∧ (∀ c ∈ b, c ≠ 245) := by
  refine ⟨sealB (Lib.itoa k ++ 32 :: (e.1 ++ 64 :: e.2)), rfl, ?_, ?_⟩
  · have h1 := goodB_facts g
    have h2 := sumB_range (Lib.itoa k ++ 32 :: (e.1 ++ 64 :: e.2))
    unfold sealB
    rw [hasB_append, hasB_append, hasB_cons, hasB_cons, hasB_append, hasB_cons, allB_nl (itoa_all h0), allB_nl h1.2.1, allB_nl h1.2.2.2.2.1, allB_nl (itoa_all h2.1)]
    rfl
  · have h1 := goodB_facts g
    have h2 := sumB_range (Lib.itoa k ++ 32 :: (e.1 ++ 64 :: e.2))
    have key : ∀ l : List UInt8, allB l = true → ∀ c ∈ l, c ≠ 245 := by
      intro l hl c hc e
      subst e
      simp only [allB, List.all_eq_true] at hl
      have := hl _ hc
      revert this
      decide
    intro c hc
    simp only [sealB, List.mem_append, List.mem_cons] at hc
    rcases hc with (hc | rfl | hc | rfl | hc) | rfl | hc
    · exact key _ (itoa_all h0) c hc
    · decide
    · exact key _ h1.2.1 c hc
    · decide
    · exact key _ h1.2.2.2.2.1 c hc
    · decide
    · exact key _ (itoa_all h2.1) c hc
end Go.Proofs.YtfcekfomhpmgpaaDoor
