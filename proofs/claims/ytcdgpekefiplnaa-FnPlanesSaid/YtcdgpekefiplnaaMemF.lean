/- Memory facts: elements of a fixed number of cells that hold no references. No program in sight. -/
import Derived.Test.YtcdgpekefiplnaaMemA
import Derived.Test.YtcdgpekefiplnaaOpenA
namespace Go.Proofs.Ytcdgpekefiplnaa
open Go.RowKit

/-- Data in a fixed number of cells, without references. -/
def Ty.flat {α : Type} (n : Nat) (enc : α → List Value) (good : α → Prop) (hn : ∀ x, (enc x).length = n) : Ty α where
  size := n
  rep _ _ cs x F := cs = enc x ∧ good x ∧ F = []
  len h := by obtain ⟨rfl, _, _⟩ := h; exact hn _
  lt h := by obtain ⟨_, _, rfl⟩ := h; simp
  keep h _ := h
  down h := h

section
variable {α : Type} {n : Nat} {enc : α → List Value} {good : α → Prop} {hn : ∀ x, (enc x).length = n}
theorem flat_all {wr : Bool} {w : World} : ∀ {xs : List α} {cs : List Value} {F : List Nat}, (Ty.flat n enc good hn).all wr w cs xs F ↔ cs = xs.flatMap enc ∧ (∀ x ∈ xs, good x) ∧ F = []
  | [], cs, F => by simp [Ty.all]
  | x :: xs, cs, F => by
    constructor
    · rintro ⟨c, d, F1, F2, rfl, rfl, ⟨rfl, hg, rfl⟩, h2⟩
      obtain ⟨rfl, h3, rfl⟩ := flat_all.1 h2
      exact ⟨rfl, fun y hy => by rcases List.mem_cons.1 hy with rfl | hy; exact hg; exact h3 y hy, rfl⟩
    · rintro ⟨rfl, h, rfl⟩
      exact ⟨enc x, xs.flatMap enc, [], [], rfl, rfl, ⟨rfl, h x List.mem_cons_self, rfl⟩, flat_all.2 ⟨rfl, fun y hy => h y (List.mem_cons_of_mem _ hy), rfl⟩⟩
theorem flat_len (hn : ∀ x, (enc x).length = n) (xs : List α) : (xs.flatMap enc).length = xs.length * n := by
  induction xs with
  | nil => simp
  | cons x xs ih => rw [List.flatMap_cons, List.length_append, ih, hn, List.length_cons, Nat.add_mul]; omega
theorem flat_get (hn : ∀ x, (enc x).length = n) : ∀ (xs : List α) (j : Nat) (hj : j < xs.length) (i : Nat), i < n → (xs.flatMap enc)[j * n + i]? = (enc xs[j])[i]?
  | x :: xs, 0, _, i, hi => by
    rw [List.flatMap_cons, Nat.zero_mul, Nat.zero_add, List.getElem?_append_left (by rw [hn]; exact hi)]; rfl
  | x :: xs, j + 1, hj, i, hi => by
    rw [List.flatMap_cons, List.getElem?_append_right (by rw [hn, Nat.add_mul]; omega), hn]
    rw [show (j + 1) * n + i - n = j * n + i by rw [Nat.add_mul]; omega]
    exact flat_get hn xs j (by simpa using hj) i hi
theorem flat_at (hn : ∀ x, (enc x).length = n) (xs : List α) (q : Nat) (hq : q < xs.length * n) : ∃ j i, j < xs.length ∧ i < n ∧ q = j * n + i := by
  have h0 : 0 < n := by rcases Nat.eq_zero_or_pos n with h | h; (subst h; simp at hq); exact h
  refine ⟨q / n, q % n, (Nat.div_lt_iff_lt_mul h0).2 hq, Nat.mod_lt _ h0, ?_⟩
  rw [Nat.mul_comm]; exact (Nat.div_add_mod q n).symm

/-- A row of flat elements: nil or empty; or its cells. -/
theorem row_flat {wr : Bool} {w : World} {v : Value} {xs : List α} {F : List Nat} (h : (Ty.flat n enc good hn).row wr w v xs F) :
    ∃ a cap, v = .slice a xs.length cap ∧ xs.length ≤ cap ∧ cap ≤ 9223372036854775807 ∧ (∀ x ∈ xs, good x) ∧
      ((xs = [] ∧ F = []) ∨ (0 < n ∧ xs ≠ [] ∧ ∃ b off, a = some ⟨b, off, none⟩ ∧ F = [b] ∧ ∀ j (hj : j < xs.length) i (u : Value), (enc xs[j])[i]? = some u → cellIs wr w b (off + (j * n + i)) u)) := by
  obtain ⟨a, cap, cs, G, rfl, h1, h2, hall, h⟩ := h
  obtain ⟨rfl, hg, rfl⟩ := flat_all.1 hall
  refine ⟨a, cap, rfl, h1, h2, hg, h.imp id ?_⟩
  rintro ⟨h0, hne, b, off, rfl, rfl, hc⟩
  refine ⟨h0, hne, b, off, rfl, rfl, fun j hj i u hu => ?_⟩
  have hi : i < n := by have := (List.getElem?_eq_some_iff.1 hu).1; rwa [hn] at this
  have hlt : j * n + i < (xs.flatMap enc).length := by
    rw [flat_len hn]
    have : (j + 1) * n ≤ xs.length * n := Nat.mul_le_mul_right n hj
    rw [Nat.add_mul] at this; omega
  have h3 := hc (j * n + i) hlt
  have h4 := flat_get hn xs j hj i hi
  rw [List.getElem?_eq_getElem hlt, hu] at h4
  rw [Option.some.inj h4] at h3
  exact h3
theorem row_flat_mk {wr : Bool} {w : World} {b off cap : Nat} {xs : List α} (hg : ∀ x ∈ xs, good x) (h1 : xs.length ≤ cap) (h2 : cap ≤ 9223372036854775807) (hne : xs ≠ []) (h0 : 0 < n)
    (hc : ∀ j (hj : j < xs.length) i (u : Value), (enc xs[j])[i]? = some u → cellIs wr w b (off + (j * n + i)) u) : (Ty.flat n enc good hn).row wr w (.slice (some ⟨b, off, none⟩) xs.length cap) xs [b] := by
  refine ⟨_, cap, xs.flatMap enc, [], rfl, h1, h2, flat_all.2 ⟨rfl, hg, rfl⟩, .inr ⟨h0, hne, b, off, rfl, rfl, fun q hq => ?_⟩⟩
  obtain ⟨j, i, hj, hi, rfl⟩ := flat_at hn xs q (by rw [flat_len hn] at hq; exact hq)
  refine hc j hj i _ ?_
  rw [← flat_get hn xs j hj i hi, List.getElem?_eq_getElem hq]
/-- The same cells told by another opening. -/
theorem Opens.flat {P : Program} {t : TypeId} {β : Type} {T : Ty β} (h : Opens P t T) (f : β → α) (hf : ∀ w cs x F, T.rep false w cs x F → cs = enc (f x) ∧ good (f x) ∧ F = []) : Opens P t (Ty.flat n enc good hn) := by
  intro H ec w spare held fuel cs y hy
  obtain ⟨x, F, hx⟩ := h H ec w spare held fuel cs y hy
  exact ⟨f x, F, hf w cs x F hx⟩
end
end Go.Proofs.Ytcdgpekefiplnaa
