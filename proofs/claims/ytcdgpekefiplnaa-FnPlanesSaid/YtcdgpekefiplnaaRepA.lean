/- How Go values hold data in memory, with the blocks that are reached. No program in sight. -/
import Derived.WalkKit
import Derived.Below
import Derived.Test.YtcdgpekefiplnaaPlA
namespace Go.Proofs.Ytcdgpekefiplnaa
open Go.RowKit

/-- A number that fits an int. -/
def I64 (n : Int) : Prop := -9223372036854775808 ≤ n ∧ n ≤ 9223372036854775807

/-- The cell at offset o of block b holds v; where wr, it may be written. -/
def cellIs (wr : Bool) (w : World) (b o : Nat) (v : Value) : Prop :=
  w.cell? ⟨b, o, none⟩ = some v ∧ (wr = true → w.frozen? ⟨b, o, none⟩ = false)

theorem cellIs.keep {wr : Bool} {w w' : World} {b o : Nat} {v : Value} (h : cellIs wr w b o v) (hb : w'.heap[b]? = w.heap[b]?) : cellIs wr w' b o v :=
  ⟨by rw [World.cell?_of_block (w := w) hb]; exact h.1, fun e => by rw [World.frozen?_of_block (w := w) hb]; exact h.2 e⟩
theorem cellIs.down {w : World} {b o : Nat} {v : Value} {wr : Bool} (h : cellIs wr w b o v) : cellIs false w b o v := ⟨h.1, fun e => by cases e⟩
theorem cellIs.lt {w : World} {b o : Nat} {v : Value} {wr : Bool} (h : cellIs wr w b o v) : b < w.heap.size := World.block_lt_of_cell? w _ h.1

/-- How a Go type holds data of type α in 'size' cells; the last argument: the blocks that are reached, one for each slice that is not empty. -/
structure Ty (α : Type) where
  size : Nat
  rep : Bool → World → List Value → α → List Nat → Prop
  len : ∀ {wr w cs x F}, rep wr w cs x F → cs.length = size
  lt : ∀ {wr w cs x F}, rep wr w cs x F → ∀ b ∈ F, b < w.heap.size
  keep : ∀ {wr w w' cs x F}, rep wr w cs x F → (∀ b ∈ F, w'.heap[b]? = w.heap[b]?) → rep wr w' cs x F
  down : ∀ {wr w cs x F}, rep wr w cs x F → rep false w cs x F

def Ty.int : Ty Int where
  size := 1
  rep _ _ cs n F := cs = [.int .i64 n] ∧ I64 n ∧ F = []
  len h := by obtain ⟨rfl, _, _⟩ := h; rfl
  lt h := by obtain ⟨_, _, rfl⟩ := h; simp
  keep h _ := h
  down h := h
def Ty.bool : Ty Bool where
  size := 1
  rep _ _ cs n F := cs = [.bool n] ∧ F = []
  len h := by obtain ⟨rfl, _⟩ := h; rfl
  lt h := by obtain ⟨_, rfl⟩ := h; simp
  keep h _ := h
  down h := h
def Ty.str : Ty ByteArray where
  size := 1
  rep _ _ cs s F := cs = [.string s] ∧ s.size ≤ 9223372036854775807 ∧ F = []
  len h := by obtain ⟨rfl, _, _⟩ := h; rfl
  lt h := by obtain ⟨_, _, rfl⟩ := h; simp
  keep h _ := h
  down h := h
def Ty.pair {α β : Type} (T : Ty α) (U : Ty β) : Ty (α × β) where
  size := T.size + U.size
  rep wr w cs x F := ∃ c d F1 F2, cs = c ++ d ∧ F = F1 ++ F2 ∧ T.rep wr w c x.1 F1 ∧ U.rep wr w d x.2 F2
  len h := by obtain ⟨c, d, F1, F2, rfl, _, h1, h2⟩ := h; simp [T.len h1, U.len h2]
  lt h := by
    obtain ⟨c, d, F1, F2, _, rfl, h1, h2⟩ := h
    intro b hb
    rcases List.mem_append.1 hb with hb | hb
    · exact T.lt h1 b hb
    · exact U.lt h2 b hb
  keep h hk := by
    obtain ⟨c, d, F1, F2, e1, rfl, h1, h2⟩ := h
    exact ⟨c, d, F1, F2, e1, rfl, T.keep h1 fun b hb => hk b (List.mem_append.2 (.inl hb)), U.keep h2 fun b hb => hk b (List.mem_append.2 (.inr hb))⟩
  down h := by
    obtain ⟨c, d, F1, F2, e1, e2, h1, h2⟩ := h
    exact ⟨c, d, F1, F2, e1, e2, T.down h1, U.down h2⟩
/-- The same cells, the data told otherwise. -/
def Ty.as {α β : Type} (T : Ty α) (g : β → α) : Ty β where
  size := T.size
  rep wr w cs x F := T.rep wr w cs (g x) F
  len h := T.len h
  lt h := T.lt h
  keep h hk := T.keep h hk
  down h := T.down h

section all
variable {α : Type} (T : Ty α)
/-- Cells that hold a list of elements, one behind the other. -/
def Ty.all (wr : Bool) (w : World) : List Value → List α → List Nat → Prop
  | cs, [], F => cs = [] ∧ F = []
  | cs, x :: xs, F => ∃ c d F1 F2, cs = c ++ d ∧ F = F1 ++ F2 ∧ T.rep wr w c x F1 ∧ Ty.all wr w d xs F2

variable {T}
theorem Ty.all_len {wr : Bool} {w : World} : ∀ {cs : List Value} {xs : List α} {F : List Nat}, T.all wr w cs xs F → cs.length = xs.length * T.size
  | _, [], _, h => by obtain ⟨rfl, _⟩ := h; simp
  | _, x :: xs, _, h => by
    obtain ⟨c, d, F1, F2, rfl, _, h1, h2⟩ := h
    rw [List.length_append, T.len h1, Ty.all_len h2, List.length_cons, Nat.add_mul]; omega
theorem Ty.all_lt {wr : Bool} {w : World} : ∀ {cs : List Value} {xs : List α} {F : List Nat}, T.all wr w cs xs F → ∀ b ∈ F, b < w.heap.size
  | _, [], _, h => by obtain ⟨_, rfl⟩ := h; simp
  | _, x :: xs, _, h => by
    obtain ⟨c, d, F1, F2, _, rfl, h1, h2⟩ := h
    intro b hb
    rcases List.mem_append.1 hb with hb | hb
    · exact T.lt h1 b hb
    · exact Ty.all_lt h2 b hb
theorem Ty.all_keep {wr : Bool} {w w' : World} : ∀ {cs : List Value} {xs : List α} {F : List Nat}, T.all wr w cs xs F → (∀ b ∈ F, w'.heap[b]? = w.heap[b]?) → T.all wr w' cs xs F
  | _, [], _, h, _ => h
  | _, x :: xs, _, h, hk => by
    obtain ⟨c, d, F1, F2, e1, rfl, h1, h2⟩ := h
    exact ⟨c, d, F1, F2, e1, rfl, T.keep h1 fun b hb => hk b (List.mem_append.2 (.inl hb)), Ty.all_keep h2 fun b hb => hk b (List.mem_append.2 (.inr hb))⟩
theorem Ty.all_down {wr : Bool} {w : World} : ∀ {cs : List Value} {xs : List α} {F : List Nat}, T.all wr w cs xs F → T.all false w cs xs F
  | _, [], _, h => h
  | _, x :: xs, _, h => by
    obtain ⟨c, d, F1, F2, e1, rfl, h1, h2⟩ := h
    exact ⟨c, d, F1, F2, e1, rfl, T.down h1, Ty.all_down h2⟩
theorem Ty.all_append {wr : Bool} {w : World} : ∀ {cs ds : List Value} {xs ys : List α} {F G : List Nat}, T.all wr w cs xs F → T.all wr w ds ys G → T.all wr w (cs ++ ds) (xs ++ ys) (F ++ G)
  | _, _, [], _, _, _, h, h' => by obtain ⟨rfl, rfl⟩ := h; exact h'
  | _, _, x :: xs, _, _, _, h, h' => by
    obtain ⟨c, d, F1, F2, rfl, rfl, h1, h2⟩ := h
    exact ⟨c, _, F1, _, List.append_assoc .., List.append_assoc .., h1, Ty.all_append h2 h'⟩
theorem Ty.all_one {wr : Bool} {w : World} {c : List Value} {x : α} {F : List Nat} (h : T.rep wr w c x F) : T.all wr w c [x] F :=
  ⟨c, [], F, [], by simp, by simp, h, rfl, rfl⟩
theorem Ty.all_snoc {wr : Bool} {w : World} {cs c : List Value} {xs : List α} {x : α} {F G : List Nat} (h : T.all wr w cs xs F) (h' : T.rep wr w c x G) : T.all wr w (cs ++ c) (xs ++ [x]) (F ++ G) :=
  Ty.all_append h (Ty.all_one h')
/-- The element at place k: what stands ahead of it, its own cells, what stands behind. -/
theorem Ty.all_split {wr : Bool} {w : World} : ∀ {cs : List Value} {xs : List α} {F : List Nat} (_ : T.all wr w cs xs F) (k : Nat) (hk : k < xs.length),
    ∃ c d e F1 F2 F3, cs = c ++ d ++ e ∧ F = F1 ++ F2 ++ F3 ∧ c.length = k * T.size ∧ T.all wr w c (xs.take k) F1 ∧ T.rep wr w d xs[k] F2 ∧ T.all wr w e (xs.drop (k + 1)) F3
  | _, x :: xs, _, h, 0, _ => by
    obtain ⟨c, d, F1, F2, rfl, rfl, h1, h2⟩ := h
    exact ⟨[], c, d, [], F1, F2, by simp, by simp, by simp, ⟨rfl, rfl⟩, h1, h2⟩
  | _, x :: xs, _, h, k + 1, hk => by
    obtain ⟨c, d, F1, F2, rfl, rfl, h1, h2⟩ := h
    obtain ⟨c', d', e', G1, G2, G3, rfl, rfl, hl, a1, a2, a3⟩ := Ty.all_split h2 k (by simpa using hk)
    exact ⟨c ++ c', d', e', F1 ++ G1, G2, G3, by simp, by simp, by rw [List.length_append, hl, T.len h1, Nat.add_mul]; omega, ⟨c, c', F1, G1, rfl, rfl, h1, a1⟩, by simpa using a2, by simpa using a3⟩
theorem Ty.all_take {wr : Bool} {w : World} {cs : List Value} {xs : List α} {F : List Nat} (h : T.all wr w cs xs F) (k : Nat) (hk : k ≤ xs.length) :
    ∃ F1, T.all wr w (cs.take (k * T.size)) (xs.take k) F1 ∧ ∀ b ∈ F1, b ∈ F := by
  rcases Nat.lt_or_ge k xs.length with hlt | hge
  · obtain ⟨c, d, e, F1, F2, F3, rfl, rfl, hl, a1, _, _⟩ := Ty.all_split h k hlt
    exact ⟨F1, by rw [← hl]; simpa using a1, fun b hb => by simp [hb]⟩
  · obtain rfl : k = xs.length := by omega
    exact ⟨F, by rw [List.take_length, ← Ty.all_len h, List.take_length]; exact h, fun _ h => h⟩
end all

/-- A slice value that holds a list. -/
def Ty.row {α : Type} (T : Ty α) (wr : Bool) (w : World) (v : Value) (xs : List α) (F : List Nat) : Prop :=
  ∃ (a : Option Addr) (cap : Nat) (cs : List Value) (G : List Nat), v = .slice a xs.length cap ∧ xs.length ≤ cap ∧ cap ≤ 9223372036854775807 ∧ T.all wr w cs xs G ∧
    ((xs = [] ∧ F = []) ∨ (0 < T.size ∧ xs ≠ [] ∧ ∃ b off, a = some ⟨b, off, none⟩ ∧ F = b :: G ∧ ∀ j (hj : j < cs.length), cellIs wr w b (off + j) cs[j]))

theorem Ty.row_lt {α : Type} {T : Ty α} {wr : Bool} {w : World} {v : Value} {xs : List α} {F : List Nat} (h : T.row wr w v xs F) : ∀ b ∈ F, b < w.heap.size := by
  obtain ⟨a, cap, cs, G, rfl, _, _, hall, h | ⟨hs, hne, b, off, rfl, rfl, hc⟩⟩ := h
  · obtain ⟨_, rfl⟩ := h; simp
  · intro b' hb'
    rcases List.mem_cons.1 hb' with rfl | hb'
    · have hl := Ty.all_len hall
      have hp : 0 < xs.length := List.length_pos_iff.2 hne
      exact (hc 0 (by rw [hl]; exact Nat.mul_pos hp hs)).lt
    · exact Ty.all_lt hall _ hb'
theorem Ty.row_keep {α : Type} {T : Ty α} {wr : Bool} {w w' : World} {v : Value} {xs : List α} {F : List Nat} (h : T.row wr w v xs F) (hk : ∀ b ∈ F, w'.heap[b]? = w.heap[b]?) : T.row wr w' v xs F := by
  obtain ⟨a, cap, cs, G, rfl, h1, h2, hall, h | ⟨hs, hne, b, off, rfl, rfl, hc⟩⟩ := h
  · obtain ⟨rfl, rfl⟩ := h
    exact ⟨a, cap, [], [], rfl, h1, h2, ⟨rfl, rfl⟩, .inl ⟨rfl, rfl⟩⟩
  · exact ⟨_, cap, cs, G, rfl, h1, h2, Ty.all_keep hall fun b' hb' => hk b' (List.mem_cons_of_mem _ hb'), .inr ⟨hs, hne, b, off, rfl, rfl, fun j hj => (hc j hj).keep (hk b List.mem_cons_self)⟩⟩
theorem Ty.row_down {α : Type} {T : Ty α} {wr : Bool} {w : World} {v : Value} {xs : List α} {F : List Nat} (h : T.row wr w v xs F) : T.row false w v xs F := by
  obtain ⟨a, cap, cs, G, rfl, h1, h2, hall, h | ⟨hs, hne, b, off, rfl, rfl, hc⟩⟩ := h
  · exact ⟨a, cap, cs, G, rfl, h1, h2, Ty.all_down hall, .inl h⟩
  · exact ⟨_, cap, cs, G, rfl, h1, h2, Ty.all_down hall, .inr ⟨hs, hne, b, off, rfl, rfl, fun j hj => (hc j hj).down⟩⟩

def Ty.slice {α : Type} (T : Ty α) : Ty (List α) where
  size := 1
  rep wr w cs xs F := ∃ v, cs = [v] ∧ T.row wr w v xs F
  len h := by obtain ⟨v, rfl, _⟩ := h; rfl
  lt h := by obtain ⟨v, _, h⟩ := h; exact Ty.row_lt h
  keep h hk := by obtain ⟨v, e, h⟩ := h; exact ⟨v, e, Ty.row_keep h hk⟩
  down h := by obtain ⟨v, e, h⟩ := h; exact ⟨v, e, Ty.row_down h⟩

theorem Ty.row_below {α : Type} {T : Ty α} {wr : Bool} {w w' : World} {B : Nat} {v : Value} {xs : List α} {F : List Nat} (h : T.row wr w v xs F) (hb : Below B w w') (hF : ∀ b ∈ F, b < B) : T.row wr w' v xs F :=
  Ty.row_keep h fun b hm => hb.block b (hF b hm)
theorem Ty.row_grow {α : Type} {T : Ty α} {wr : Bool} {w w' : World} {v : Value} {xs : List α} {F : List Nat} (h : T.row wr w v xs F) (hb : Below w.heap.size w w') : T.row wr w' v xs F :=
  Ty.row_below h hb (Ty.row_lt h)
/-- A slice that is not empty: its head, and its cells. -/
theorem Ty.row_view {α : Type} {T : Ty α} {wr : Bool} {w : World} {v : Value} {xs : List α} {F : List Nat} (h : T.row wr w v xs F) (hne : xs ≠ []) :
    ∃ b off cap cs G, v = .slice (some ⟨b, off, none⟩) xs.length cap ∧ xs.length ≤ cap ∧ cap ≤ 9223372036854775807 ∧ T.all wr w cs xs G ∧ F = b :: G ∧ ∀ j (hj : j < cs.length), cellIs wr w b (off + j) cs[j] := by
  obtain ⟨a, cap, cs, G, rfl, h1, h2, hall, ⟨e, _⟩ | ⟨hs, hne, b, off, rfl, rfl, hc⟩⟩ := h
  · exact absurd e hne
  · exact ⟨b, off, cap, cs, G, rfl, h1, h2, hall, rfl, hc⟩
theorem Ty.row_len {α : Type} {T : Ty α} {wr : Bool} {w : World} {v : Value} {xs : List α} {F : List Nat} (h : T.row wr w v xs F) : ∃ a cap, v = .slice a xs.length cap ∧ xs.length ≤ cap ∧ cap ≤ 9223372036854775807 := by
  obtain ⟨a, cap, cs, G, rfl, h1, h2, _⟩ := h
  exact ⟨a, cap, rfl, h1, h2⟩
theorem Ty.row_nil {α : Type} (T : Ty α) (wr : Bool) (w : World) (a : Option Addr) (cap : Nat) (h : cap ≤ 9223372036854775807) : T.row wr w (.slice a 0 cap) [] [] :=
  ⟨a, cap, [], [], rfl, Nat.zero_le _, h, ⟨rfl, rfl⟩, .inl ⟨rfl, rfl⟩⟩

/-- From the guide's owned row, its elements' own blocks beside it. -/
theorem Ty.row_of_owns {α : Type} {T : Ty α} {w : World} {base : Nat} {e : TypeId} {size : Nat} {v : Value} {xs : List α} {cs : List Value} {G : List Nat} (h : w.ownsRow base e size v xs.length cs) (hT : T.size = size) (hs : 0 < size)
    (hall : T.all true w cs xs G) :
    ∃ F, T.row true w v xs F ∧ (F = [] ∨ ∃ g, base ≤ g ∧ g < w.heap.size ∧ v.ownBlock = some g ∧ F = g :: G) ∧ (xs ≠ [] → F ≠ []) := by
  obtain ⟨hl, ⟨rfl, h0⟩ | ⟨g, cap, cur, rfl, hg, hh, hn, hm, hcs, ht⟩⟩ := h
  · have : xs = [] := List.length_eq_zero_iff.1 h0
    subst this
    exact ⟨[], Ty.row_nil _ _ _ _ _ (by omega), .inl rfl, by simp⟩
  · rcases Nat.eq_zero_or_pos xs.length with h0 | h0
    · have : xs = [] := List.length_eq_zero_iff.1 h0
      subst this
      exact ⟨[], Ty.row_nil _ _ _ _ _ ((by unfold maxLen at hm; omega)), .inl rfl, by simp⟩
    · have hlt : g < w.heap.size := by
        rcases Nat.lt_or_ge g w.heap.size with h | h
        · exact h
        · simp [Array.getElem?_eq_none h] at hh
      refine ⟨g :: G, ⟨_, cap, cs, G, rfl, hn, (by unfold maxLen at hm; omega), hall, .inr ⟨by omega, by rintro rfl; simp at h0, g, 0, rfl, rfl, fun j hj => ⟨?_, fun _ => ?_⟩⟩⟩, .inr ⟨g, hg, hlt, rfl, rfl⟩, by simp⟩
      · have hj' : j < cur.size := by
          rw [← ht] at hj
          simp at hj
          omega
        have e1 : cs[j] = cur[j] := by
          subst ht
          simp
        simp only [World.cell?, hh, Nat.zero_add]
        rw [e1]
        simp [hj']
      · simp [World.frozen?, hh]
end Go.Proofs.Ytcdgpekefiplnaa
